/-
  The marks held; maps over trees.
  Conditions: none.
-/
import Derived.Test.YtklligemdfnimaaPTreeB
set_option linter.unusedVariables false
set_option linter.unusedSimpArgs false
set_option linter.unusedVariables false
set_option linter.unusedSimpArgs false
set_option maxRecDepth 4000
namespace Go.Proofs.Ytklligemdfnimaa
open Go Go.Vc
def HdC {α : Type} (fn : FuncId) (row : α → List D) (f : Int → α → α) (c : α → Nat) (es : List α) : Prop :=
  ∀ (m : World) (k : Int) (v : Value) (F : List Nat), CellF m (.sl es.length ((mkL f c k es).flatMap row)) v F → 0 ≤ k → k + cnL c es ≤ 4611686018427387904 →
    FCalls Try.prog fn #[v, .int .i64 k] m fun r m' => Grow m m' ∧ r = .int .i64 (k + cnL c es)
def HdA : PExpr → Prop
  | .mk k o n v u a ks ss => HdC 88 PExpr.row mkE cnE ks ∧ HdC 89 Plan.row mkP cnP ss
def HdB : Plan → Prop
  | .mk t on wh or it nm ds li => HdC 110 erow (mkL mkE cnE) (cnL cnE) on ∧ HdC 88 PExpr.row mkE cnE wh ∧ HdC 111 PSort.row mkS cnS or ∧ HdC 88 PExpr.row mkE cnE it
def HdO : PSort → Prop
  | .mk e d => HdA e
theorem PExpr.valsK {m : World} {k o n v u a} {ks : List PExpr} {ss : List Plan} {nk np : Nat} (hk : ks.length = nk) (hp : ss.length = np) {vs : List Value} {F : List Nat} (h : ValsF m (PExpr.mk k o n v u a ks ss).row vs F) :
    ∃ x y F1 F2, vs = [.int .i64 k, .int .i64 o, .bool n, .int .i64 v.kind, .int .i64 v.num, .string v.text, .int .i64 u, .int .i64 a, x, y] ∧
      CellF m (.sl nk (ks.flatMap PExpr.row)) x F1 ∧ CellF m (.sl np (ss.flatMap Plan.row)) y F2 := by
  obtain ⟨x, y, F1, F2, h1, _, h2, h3, _⟩ := PExpr.vals h
  subst hk hp
  exact ⟨x, y, F1, F2, h1, h2, h3⟩

theorem heldIntS (es : List Int) : HdC 109 irow (fun k _ => k) (fun _ => 1) es := by
  intro m k v F h h0 h1
  obtain ⟨a, cap, rfl, hcap, hmax, hz⟩ := h.slice
  have hmax' : cap ≤ 9223372036854775807 := hmax
  refine fcalls_of_vc (args := [_, _]) follows_mixed Try.func109 rfl (by kernel_rfl) (by simp [Try.f109]) ?_
  simp only [Try.f109, vcs, tbl, crs, List.map, reduceIte, Nat.reduceLT, Nat.reduceLeDiff, Nat.reduceEqDiff, Nat.reduceAdd, Nat.reduceMul, Nat.reduceSub]
  refine vcLoop.intro (fun s L m1 => ∃ i : Nat, s 5 = .c (.v (.int .i64 i)) ∧ s 1 = .c (.v (.int .i64 (k + cnL (fun _ => 1) (es.take i)))) ∧ L = [] ∧ i ≤ es.length ∧ Grow m m1)
    (fun s _ _ => (es.length - ixS (s 5)).toNat) ⟨[], Sub.nil _, 0, ?_⟩ ?_
  · simp only [vcs, tbl, crs, List.map, reduceIte, Nat.reduceLT, Nat.reduceLeDiff, Nat.reduceEqDiff, Nat.reduceAdd, Nat.reduceMul, Nat.reduceSub]
    exact ⟨rfl, by simp [cnL], by omega, Grow.refl _⟩
  · rintro g L1 m1 ⟨i, h5, h1', rfl, hi, hg0⟩
    simp only [vcs, tbl, crs, List.map, reduceIte, Nat.reduceLT, Nat.reduceLeDiff, Nat.reduceEqDiff, Nat.reduceAdd, Nat.reduceMul, Nat.reduceSub] at h5 h1'
    simp only [vcs, tbl, crs, List.map, reduceIte, Nat.reduceLT, Nat.reduceLeDiff, Nat.reduceEqDiff, Nat.reduceAdd, Nat.reduceMul, Nat.reduceSub, h5, h1']
    refine ⟨fun hlt => ?_, fun hge => ?_⟩
    · have hlt : i < es.length := by omega
      have hks := cnL_take_succ (fun _ => 1) es i hlt
      have hkl := cnL_take_le (fun _ => 1) es (i + 1)
      obtain ⟨b, o, vs, Fk, rfl, hlen, hcell, hv, _⟩ := h.elemL irow_len (by decide) (mkL_get (fun k _ => k) (fun _ => 1) k es i hlt)
      obtain ⟨k0, hk0⟩ : ∃ k0 : Int, k0 = k + cnL (fun _ => 1) (es.take i) := ⟨_, rfl⟩
      rw [← hk0] at h1' hv
      try rw [← hk0]
      obtain ⟨e, he⟩ : ∃ e, es[i] = e := ⟨_, rfl⟩
      try rw [he] at hks
      try rw [he] at hv
      obtain ⟨r1, rfl, hv1, _⟩ := valsF_lit hv
      refine ⟨by omega, by omega, _, rfl, ?_⟩
      simp only [vcs, tbl, crs, List.map, reduceIte, Nat.reduceLT, Nat.reduceLeDiff, Nat.reduceEqDiff, Nat.reduceAdd, Nat.reduceMul, Nat.reduceSub, h5, h1', add_lit0, pure_fieldAt, Nat.add_zero]
      refine ⟨_, hg0.cell (hcell 0 _ rfl), ?_⟩
      simp only [vcs, tbl, crs, List.map, reduceIte, Nat.reduceLT, Nat.reduceLeDiff, Nat.reduceEqDiff, Nat.reduceAdd, Nat.reduceMul, Nat.reduceSub, h5, h1']
      refine ⟨fun h => by simp at h, fun _ => ?_⟩
      rw [wrap_id (by omega) (by omega)]
      try simp only [Int.add_assoc, Int.reduceAdd]
      rw [wrap_id (by omega) (by omega)]
      exact ⟨[], Sub.nil _, ⟨i + 1, by simp, by rw [hks]; simp; omega, rfl, by omega, hg0⟩, by omega⟩
    · have : i = es.length := by omega
      subst this
      exact ⟨hg0, by rw [List.take_length]⟩

theorem heldStringS (es : List ByteArray) : HdC 112 srow (fun k _ => mtext k) (fun _ => 1) es := by
  intro m k v F h h0 h1
  obtain ⟨a, cap, rfl, hcap, hmax, hz⟩ := h.slice
  have hmax' : cap ≤ 9223372036854775807 := hmax
  refine fcalls_of_vc (args := [_, _]) follows_mixed Try.func112 rfl (by kernel_rfl) (by simp [Try.f112]) ?_
  simp only [Try.f112, vcs, tbl, crs, List.map, reduceIte, Nat.reduceLT, Nat.reduceLeDiff, Nat.reduceEqDiff, Nat.reduceAdd, Nat.reduceMul, Nat.reduceSub]
  refine vcLoop.intro (fun s L m1 => ∃ i : Nat, s 5 = .c (.v (.int .i64 i)) ∧ s 1 = .c (.v (.int .i64 (k + cnL (fun _ => 1) (es.take i)))) ∧ L = [] ∧ i ≤ es.length ∧ Grow m m1)
    (fun s _ _ => (es.length - ixS (s 5)).toNat) ⟨[], Sub.nil _, 0, ?_⟩ ?_
  · simp only [vcs, tbl, crs, List.map, reduceIte, Nat.reduceLT, Nat.reduceLeDiff, Nat.reduceEqDiff, Nat.reduceAdd, Nat.reduceMul, Nat.reduceSub]
    exact ⟨rfl, by simp [cnL], by omega, Grow.refl _⟩
  · rintro g L1 m1 ⟨i, h5, h1', rfl, hi, hg0⟩
    simp only [vcs, tbl, crs, List.map, reduceIte, Nat.reduceLT, Nat.reduceLeDiff, Nat.reduceEqDiff, Nat.reduceAdd, Nat.reduceMul, Nat.reduceSub] at h5 h1'
    simp only [vcs, tbl, crs, List.map, reduceIte, Nat.reduceLT, Nat.reduceLeDiff, Nat.reduceEqDiff, Nat.reduceAdd, Nat.reduceMul, Nat.reduceSub, h5, h1']
    refine ⟨fun hlt => ?_, fun hge => ?_⟩
    · have hlt : i < es.length := by omega
      have hks := cnL_take_succ (fun _ => 1) es i hlt
      have hkl := cnL_take_le (fun _ => 1) es (i + 1)
      obtain ⟨b, o, vs, Fk, rfl, hlen, hcell, hv, _⟩ := h.elemL srow_len (by decide) (mkL_get (fun k _ => mtext k) (fun _ => 1) k es i hlt)
      obtain ⟨k0, hk0⟩ : ∃ k0 : Int, k0 = k + cnL (fun _ => 1) (es.take i) := ⟨_, rfl⟩
      rw [← hk0] at h1' hv
      try rw [← hk0]
      obtain ⟨e, he⟩ : ∃ e, es[i] = e := ⟨_, rfl⟩
      try rw [he] at hks
      try rw [he] at hv
      obtain ⟨r1, rfl, hv1, _⟩ := valsF_lit hv
      refine vcDrawn.intro (.take 0 (.take 1 (.take 2 (.take 3 (.take 4 (.br 5 (.take 6 .done) .nobr)))))) (by kernel_rfl) ?_
      simp only [vcs, tbl, crs, List.map, reduceIte, Nat.reduceLT, Nat.reduceLeDiff, Nat.reduceEqDiff, Nat.reduceAdd, Nat.reduceMul, Nat.reduceSub, h5, h1']
      refine ⟨by omega, by omega, _, rfl, ?_⟩
      simp only [vcs, tbl, crs, List.map, reduceIte, Nat.reduceLT, Nat.reduceLeDiff, Nat.reduceEqDiff, Nat.reduceAdd, Nat.reduceMul, Nat.reduceSub, h5, h1', add_lit0, pure_fieldAt, Nat.add_zero]
      refine ⟨_, hg0.cell (hcell 0 _ rfl), ?_⟩
      simp only [vcs, tbl, crs, List.map, reduceIte, Nat.reduceLT, Nat.reduceLeDiff, Nat.reduceEqDiff, Nat.reduceAdd, Nat.reduceMul, Nat.reduceSub, h5, h1']
      refine (markText _ _ (by omega)).mono ?_
      rintro r w0 ⟨hx0, rfl⟩
      refine ⟨hx0, ?_⟩
      have hg1 := hg0.trans hx0
      simp only [vcs, tbl, crs, List.map, reduceIte, Nat.reduceLT, Nat.reduceLeDiff, Nat.reduceEqDiff, Nat.reduceAdd, Nat.reduceMul, Nat.reduceSub, h5, h1']
      refine ⟨fun h => by simp at h, fun _ => ?_⟩
      rw [wrap_id (by omega) (by omega)]
      try simp only [Int.add_assoc, Int.reduceAdd]
      rw [wrap_id (by omega) (by omega)]
      exact ⟨[], Sub.nil _, ⟨i + 1, by simp, by rw [hks]; simp; omega, rfl, by omega, hg1⟩, by omega⟩
    · have : i = es.length := by omega
      subst this
      exact ⟨hg0, by rw [List.take_length]⟩

set_option maxHeartbeats 1000000 in
theorem heldPExprS (es : List PExpr) (hx : ∀ e ∈ es, HdA e) : HdC 88 PExpr.row mkE cnE es := by
  intro m k v F h h0 h1
  obtain ⟨a, cap, rfl, hcap, hmax, hz⟩ := h.slice
  have hmax' : cap ≤ 9223372036854775807 := hmax
  refine fcalls_of_vc (args := [_, _]) follows_mixed Try.func88 rfl (by kernel_rfl) (by simp [Try.f88]) ?_
  simp only [Try.f88, vcs, tbl, crs, List.map, reduceIte, Nat.reduceLT, Nat.reduceLeDiff, Nat.reduceEqDiff, Nat.reduceAdd, Nat.reduceMul, Nat.reduceSub]
  refine vcLoop.intro (fun s L m1 => ∃ i : Nat, s 5 = .c (.v (.int .i64 i)) ∧ s 1 = .c (.v (.int .i64 (k + cnL cnE (es.take i)))) ∧ L = [] ∧ i ≤ es.length ∧ Grow m m1)
    (fun s _ _ => (es.length - ixS (s 5)).toNat) ⟨[], Sub.nil _, 0, ?_⟩ ?_
  · simp only [vcs, tbl, crs, List.map, reduceIte, Nat.reduceLT, Nat.reduceLeDiff, Nat.reduceEqDiff, Nat.reduceAdd, Nat.reduceMul, Nat.reduceSub]
    exact ⟨rfl, by simp [cnL], by omega, Grow.refl _⟩
  · rintro g L1 m1 ⟨i, h5, h1', rfl, hi, hg0⟩
    simp only [vcs, tbl, crs, List.map, reduceIte, Nat.reduceLT, Nat.reduceLeDiff, Nat.reduceEqDiff, Nat.reduceAdd, Nat.reduceMul, Nat.reduceSub] at h5 h1'
    simp only [vcs, tbl, crs, List.map, reduceIte, Nat.reduceLT, Nat.reduceLeDiff, Nat.reduceEqDiff, Nat.reduceAdd, Nat.reduceMul, Nat.reduceSub, h5, h1']
    refine ⟨fun hlt => ?_, fun hge => ?_⟩
    · have hlt : i < es.length := by omega
      have hks := cnL_take_succ cnE es i hlt
      have hkl := cnL_take_le cnE es (i + 1)
      obtain ⟨b, o, vs, Fk, rfl, hlen, hcell, hv, _⟩ := h.elemL PExpr.row_len (by decide) (mkL_get mkE cnE k es i hlt)
      obtain ⟨k0, hk0⟩ : ∃ k0 : Int, k0 = k + cnL cnE (es.take i) := ⟨_, rfl⟩
      rw [← hk0] at h1' hv
      try rw [← hk0]
      obtain ⟨e, he⟩ : ∃ e, es[i] = e := ⟨_, rfl⟩
      try rw [he] at hks
      try rw [he] at hv
      have hxe := hx _ (List.getElem_mem hlt)
      rw [he] at hxe
      obtain ⟨kd, op, nt, vl, up, ap, ks, ss⟩ := e
      obtain ⟨hK, hS⟩ := hxe
      rw [cnE, cnEs_eq, cnPs_eq] at hks
      rw [mkE, mkEs_eq, mkPs_eq] at hv
      simp only [Int.add_assoc] at hv
      obtain ⟨x, y, F1, F2, rfl, c1, c2⟩ := PExpr.valsK (mkL_len _ _ _ _) (mkL_len _ _ _ _) hv
      refine ⟨by omega, by omega, _, rfl, ?_⟩
      simp only [vcs, tbl, crs, List.map, reduceIte, Nat.reduceLT, Nat.reduceLeDiff, Nat.reduceEqDiff, Nat.reduceAdd, Nat.reduceMul, Nat.reduceSub, h5, h1', add_lit0, pure_fieldAt, Nat.add_zero]
      refine ⟨_, hg0.cell (hcell 0 _ rfl), ?_⟩
      simp only [vcs, tbl, crs, List.map, reduceIte, Nat.reduceLT, Nat.reduceLeDiff, Nat.reduceEqDiff, Nat.reduceAdd, Nat.reduceMul, Nat.reduceSub, h5, h1']
      refine ⟨fun h => by simp at h, fun _ => ?_⟩
      rw [wrap_id (by omega) (by omega)]
      try simp only [Int.add_assoc, Int.reduceAdd]
      refine ⟨by omega, by omega, _, rfl, ?_⟩
      simp only [vcs, tbl, crs, List.map, reduceIte, Nat.reduceLT, Nat.reduceLeDiff, Nat.reduceEqDiff, Nat.reduceAdd, Nat.reduceMul, Nat.reduceSub, h5, h1', add_lit0, pure_fieldAt, Nat.add_zero]
      refine ⟨_, hg0.cell (hcell 1 _ rfl), ?_⟩
      simp only [vcs, tbl, crs, List.map, reduceIte, Nat.reduceLT, Nat.reduceLeDiff, Nat.reduceEqDiff, Nat.reduceAdd, Nat.reduceMul, Nat.reduceSub, h5, h1']
      refine ⟨fun h => by simp at h, fun _ => ?_⟩
      rw [wrap_id (by omega) (by omega)]
      try simp only [Int.add_assoc, Int.reduceAdd]
      refine ⟨by omega, by omega, _, rfl, ?_⟩
      simp only [vcs, tbl, crs, List.map, reduceIte, Nat.reduceLT, Nat.reduceLeDiff, Nat.reduceEqDiff, Nat.reduceAdd, Nat.reduceMul, Nat.reduceSub, h5, h1', add_lit0, pure_fieldAt, Nat.add_zero]
      refine ⟨_, hg0.cell (hcell 2 _ rfl), ?_⟩
      simp only [vcs, tbl, crs, List.map, reduceIte, Nat.reduceLT, Nat.reduceLeDiff, Nat.reduceEqDiff, Nat.reduceAdd, Nat.reduceMul, Nat.reduceSub, h5, h1']
      rw [pure_rem (by decide)]
      simp only [vcs, tbl, crs, List.map, reduceIte, Nat.reduceLT, Nat.reduceLeDiff, Nat.reduceEqDiff, Nat.reduceAdd, Nat.reduceMul, Nat.reduceSub, h5, h1', Int.add_assoc, Int.reduceAdd]
      rw [pure_bneq ub4]
      simp only [vcs, tbl, crs, List.map, reduceIte, Nat.reduceLT, Nat.reduceLeDiff, Nat.reduceEqDiff, Nat.reduceAdd, Nat.reduceMul, Nat.reduceSub, h5, h1', Int.add_assoc, Int.reduceAdd]
      refine ⟨fun h => by simp at h, fun _ => ?_⟩
      rw [wrap_id (by omega) (by omega)]
      try simp only [Int.add_assoc, Int.reduceAdd]
      refine ⟨by omega, by omega, _, rfl, ?_⟩
      simp only [vcs, tbl, crs, List.map, reduceIte, Nat.reduceLT, Nat.reduceLeDiff, Nat.reduceEqDiff, Nat.reduceAdd, Nat.reduceMul, Nat.reduceSub, h5, h1', add_lit0, pure_fieldAt, Nat.add_zero]
      refine ⟨_, hg0.cell (hcell 3 _ rfl), ?_⟩
      simp only [vcs, tbl, crs, List.map, reduceIte, Nat.reduceLT, Nat.reduceLeDiff, Nat.reduceEqDiff, Nat.reduceAdd, Nat.reduceMul, Nat.reduceSub, h5, h1']
      refine ⟨fun h => by simp at h, fun _ => ?_⟩
      rw [wrap_id (by omega) (by omega)]
      try simp only [Int.add_assoc, Int.reduceAdd]
      refine ⟨by omega, by omega, _, rfl, ?_⟩
      simp only [vcs, tbl, crs, List.map, reduceIte, Nat.reduceLT, Nat.reduceLeDiff, Nat.reduceEqDiff, Nat.reduceAdd, Nat.reduceMul, Nat.reduceSub, h5, h1', add_lit0, pure_fieldAt, Nat.add_zero]
      refine ⟨_, hg0.cell (hcell 4 _ rfl), ?_⟩
      simp only [vcs, tbl, crs, List.map, reduceIte, Nat.reduceLT, Nat.reduceLeDiff, Nat.reduceEqDiff, Nat.reduceAdd, Nat.reduceMul, Nat.reduceSub, h5, h1']
      refine ⟨fun h => by simp at h, fun _ => ?_⟩
      rw [wrap_id (by omega) (by omega)]
      try simp only [Int.add_assoc, Int.reduceAdd]
      refine vcDrawn.intro (.take 0 (.take 1 (.take 2 (.take 3 (.take 4 (.take 5 (.take 6 (.br 7 (.take 8 .done) .nobr)))))))) (by kernel_rfl) ?_
      simp only [vcs, tbl, crs, List.map, reduceIte, Nat.reduceLT, Nat.reduceLeDiff, Nat.reduceEqDiff, Nat.reduceAdd, Nat.reduceMul, Nat.reduceSub, h5, h1']
      refine ⟨by omega, by omega, _, rfl, ?_⟩
      simp only [vcs, tbl, crs, List.map, reduceIte, Nat.reduceLT, Nat.reduceLeDiff, Nat.reduceEqDiff, Nat.reduceAdd, Nat.reduceMul, Nat.reduceSub, h5, h1', add_lit0, pure_fieldAt, Nat.add_zero]
      refine ⟨_, hg0.cell (hcell 5 _ rfl), ?_⟩
      simp only [vcs, tbl, crs, List.map, reduceIte, Nat.reduceLT, Nat.reduceLeDiff, Nat.reduceEqDiff, Nat.reduceAdd, Nat.reduceMul, Nat.reduceSub, h5, h1']
      refine (markText _ _ (by omega)).mono ?_
      rintro r w0 ⟨hx0, rfl⟩
      refine ⟨hx0, ?_⟩
      have hg1 := hg0.trans hx0
      simp only [vcs, tbl, crs, List.map, reduceIte, Nat.reduceLT, Nat.reduceLeDiff, Nat.reduceEqDiff, Nat.reduceAdd, Nat.reduceMul, Nat.reduceSub, h5, h1']
      refine ⟨fun h => by simp at h, fun _ => ?_⟩
      rw [wrap_id (by omega) (by omega)]
      try simp only [Int.add_assoc, Int.reduceAdd]
      refine ⟨by omega, by omega, _, rfl, ?_⟩
      simp only [vcs, tbl, crs, List.map, reduceIte, Nat.reduceLT, Nat.reduceLeDiff, Nat.reduceEqDiff, Nat.reduceAdd, Nat.reduceMul, Nat.reduceSub, h5, h1', add_lit0, pure_fieldAt, Nat.add_zero]
      refine ⟨_, hg1.cell (hcell 6 _ rfl), ?_⟩
      simp only [vcs, tbl, crs, List.map, reduceIte, Nat.reduceLT, Nat.reduceLeDiff, Nat.reduceEqDiff, Nat.reduceAdd, Nat.reduceMul, Nat.reduceSub, h5, h1']
      refine ⟨fun h => by simp at h, fun _ => ?_⟩
      rw [wrap_id (by omega) (by omega)]
      try simp only [Int.add_assoc, Int.reduceAdd]
      refine ⟨by omega, by omega, _, rfl, ?_⟩
      simp only [vcs, tbl, crs, List.map, reduceIte, Nat.reduceLT, Nat.reduceLeDiff, Nat.reduceEqDiff, Nat.reduceAdd, Nat.reduceMul, Nat.reduceSub, h5, h1', add_lit0, pure_fieldAt, Nat.add_zero]
      refine ⟨_, hg1.cell (hcell 7 _ rfl), ?_⟩
      simp only [vcs, tbl, crs, List.map, reduceIte, Nat.reduceLT, Nat.reduceLeDiff, Nat.reduceEqDiff, Nat.reduceAdd, Nat.reduceMul, Nat.reduceSub, h5, h1']
      refine ⟨fun h => by simp at h, fun _ => ?_⟩
      rw [wrap_id (by omega) (by omega)]
      try simp only [Int.add_assoc, Int.reduceAdd]
      refine ⟨by omega, by omega, _, rfl, ?_⟩
      simp only [vcs, tbl, crs, List.map, reduceIte, Nat.reduceLT, Nat.reduceLeDiff, Nat.reduceEqDiff, Nat.reduceAdd, Nat.reduceMul, Nat.reduceSub, h5, h1', add_lit0, pure_fieldAt, Nat.add_zero]
      refine ⟨_, hg1.cell (hcell 8 _ rfl), ?_⟩
      obtain ⟨a1, p1, rfl, _⟩ := c1.slice
      simp only [vcs, tbl, crs, List.map, reduceIte, Nat.reduceLT, Nat.reduceLeDiff, Nat.reduceEqDiff, Nat.reduceAdd, Nat.reduceMul, Nat.reduceSub, h5, h1', Int.add_assoc, Int.reduceAdd]
      refine (hK _ _ _ _ (c1.grow hg1) (by omega) (by omega)).mono ?_
      rintro r w1 ⟨hx1, rfl⟩
      have hg2 := hg1.trans hx1
      simp only [vcs, tbl, crs, List.map, reduceIte, Nat.reduceLT, Nat.reduceLeDiff, Nat.reduceEqDiff, Nat.reduceAdd, Nat.reduceMul, Nat.reduceSub, h5, h1', Int.add_assoc, Int.reduceAdd]
      refine ⟨fun h => absurd h (by omega), fun _ => ?_⟩
      refine ⟨by omega, by omega, _, rfl, ?_⟩
      simp only [vcs, tbl, crs, List.map, reduceIte, Nat.reduceLT, Nat.reduceLeDiff, Nat.reduceEqDiff, Nat.reduceAdd, Nat.reduceMul, Nat.reduceSub, h5, h1', add_lit0, pure_fieldAt, Nat.add_zero]
      refine ⟨_, hg2.cell (hcell 9 _ rfl), ?_⟩
      obtain ⟨a2, p2, rfl, _⟩ := c2.slice
      simp only [vcs, tbl, crs, List.map, reduceIte, Nat.reduceLT, Nat.reduceLeDiff, Nat.reduceEqDiff, Nat.reduceAdd, Nat.reduceMul, Nat.reduceSub, h5, h1', Int.add_assoc, Int.reduceAdd]
      refine (hS _ _ _ _ (c2.grow hg2) (by omega) (by omega)).mono ?_
      rintro r w2 ⟨hx2, rfl⟩
      have hg3 := hg2.trans hx2
      simp only [vcs, tbl, crs, List.map, reduceIte, Nat.reduceLT, Nat.reduceLeDiff, Nat.reduceEqDiff, Nat.reduceAdd, Nat.reduceMul, Nat.reduceSub, h5, h1', Int.add_assoc, Int.reduceAdd]
      refine ⟨fun h => absurd h (by omega), fun _ => ?_⟩
      rw [wrap_id (by omega) (by omega)]
      exact ⟨[], Sub.nil _, ⟨i + 1, by simp, by rw [hks]; simp; omega, rfl, by omega, hg3⟩, by omega⟩
    · have : i = es.length := by omega
      subst this
      exact ⟨hg0, by rw [List.take_length]⟩

theorem heldPExprSS (es : List (List PExpr)) (hx : ∀ l ∈ es, ∀ e ∈ l, HdA e) : HdC 110 erow (mkL mkE cnE) (cnL cnE) es := by
  intro m k v F h h0 h1
  obtain ⟨a, cap, rfl, hcap, hmax, hz⟩ := h.slice
  have hmax' : cap ≤ 9223372036854775807 := hmax
  refine fcalls_of_vc (args := [_, _]) follows_mixed Try.func110 rfl (by kernel_rfl) (by simp [Try.f110]) ?_
  simp only [Try.f110, vcs, tbl, crs, List.map, reduceIte, Nat.reduceLT, Nat.reduceLeDiff, Nat.reduceEqDiff, Nat.reduceAdd, Nat.reduceMul, Nat.reduceSub]
  refine vcLoop.intro (fun s L m1 => ∃ i : Nat, s 5 = .c (.v (.int .i64 i)) ∧ s 1 = .c (.v (.int .i64 (k + cnL (cnL cnE) (es.take i)))) ∧ L = [] ∧ i ≤ es.length ∧ Grow m m1)
    (fun s _ _ => (es.length - ixS (s 5)).toNat) ⟨[], Sub.nil _, 0, ?_⟩ ?_
  · simp only [vcs, tbl, crs, List.map, reduceIte, Nat.reduceLT, Nat.reduceLeDiff, Nat.reduceEqDiff, Nat.reduceAdd, Nat.reduceMul, Nat.reduceSub]
    exact ⟨rfl, by simp [cnL], by omega, Grow.refl _⟩
  · rintro g L1 m1 ⟨i, h5, h1', rfl, hi, hg0⟩
    simp only [vcs, tbl, crs, List.map, reduceIte, Nat.reduceLT, Nat.reduceLeDiff, Nat.reduceEqDiff, Nat.reduceAdd, Nat.reduceMul, Nat.reduceSub] at h5 h1'
    simp only [vcs, tbl, crs, List.map, reduceIte, Nat.reduceLT, Nat.reduceLeDiff, Nat.reduceEqDiff, Nat.reduceAdd, Nat.reduceMul, Nat.reduceSub, h5, h1']
    refine ⟨fun hlt => ?_, fun hge => ?_⟩
    · have hlt : i < es.length := by omega
      have hks := cnL_take_succ (cnL cnE) es i hlt
      have hkl := cnL_take_le (cnL cnE) es (i + 1)
      obtain ⟨b, o, vs, Fk, rfl, hlen, hcell, hv, _⟩ := h.elemL erow_len (by decide) (mkL_get (mkL mkE cnE) (cnL cnE) k es i hlt)
      obtain ⟨k0, hk0⟩ : ∃ k0 : Int, k0 = k + cnL (cnL cnE) (es.take i) := ⟨_, rfl⟩
      rw [← hk0] at h1' hv
      try rw [← hk0]
      obtain ⟨e, he⟩ : ∃ e, es[i] = e := ⟨_, rfl⟩
      try rw [he] at hks
      try rw [he] at hv
      have hxe := hx _ (List.getElem_mem hlt)
      rw [he] at hxe
      have hcl := ValsF.one hv (u := vs[0]'(by omega)) (List.getElem?_eq_getElem (by omega))
      rw [mkL_len] at hcl
      obtain ⟨u, hu⟩ : ∃ u, vs[0]'(by omega) = u := ⟨_, rfl⟩
      have hv0 : vs[0]? = some u := by rw [← hu]; exact List.getElem?_eq_getElem (by omega)
      rw [hu] at hcl
      refine ⟨by omega, by omega, _, rfl, ?_⟩
      simp only [vcs, tbl, crs, List.map, reduceIte, Nat.reduceLT, Nat.reduceLeDiff, Nat.reduceEqDiff, Nat.reduceAdd, Nat.reduceMul, Nat.reduceSub, h5, h1', add_lit0, pure_fieldAt, Nat.add_zero]
      refine ⟨_, hg0.cell (by simpa using hcell 0 _ hv0), ?_⟩
      obtain ⟨a0, p0, rfl, _⟩ := hcl.slice
      simp only [vcs, tbl, crs, List.map, reduceIte, Nat.reduceLT, Nat.reduceLeDiff, Nat.reduceEqDiff, Nat.reduceAdd, Nat.reduceMul, Nat.reduceSub, h5, h1', Int.add_assoc, Int.reduceAdd]
      refine ((heldPExprS _ hxe) _ _ _ _ (hcl.grow hg0) (by omega) (by omega)).mono ?_
      rintro r w0 ⟨hx0, rfl⟩
      have hg1 := hg0.trans hx0
      simp only [vcs, tbl, crs, List.map, reduceIte, Nat.reduceLT, Nat.reduceLeDiff, Nat.reduceEqDiff, Nat.reduceAdd, Nat.reduceMul, Nat.reduceSub, h5, h1', Int.add_assoc, Int.reduceAdd]
      refine ⟨fun h => absurd h (by omega), fun _ => ?_⟩
      rw [wrap_id (by omega) (by omega)]
      exact ⟨[], Sub.nil _, ⟨i + 1, by simp, by rw [hks]; simp; omega, rfl, by omega, hg1⟩, by omega⟩
    · have : i = es.length := by omega
      subst this
      exact ⟨hg0, by rw [List.take_length]⟩

set_option maxHeartbeats 1000000 in
theorem heldPSortS (es : List PSort) (hx : ∀ e ∈ es, HdO e) : HdC 111 PSort.row mkS cnS es := by
  intro m k v F h h0 h1
  obtain ⟨a, cap, rfl, hcap, hmax, hz⟩ := h.slice
  have hmax' : cap ≤ 9223372036854775807 := hmax
  refine fcalls_of_vc (args := [_, _]) follows_mixed Try.func111 rfl (by kernel_rfl) (by simp [Try.f111]) ?_
  simp only [Try.f111, vcs, tbl, crs, List.map, reduceIte, Nat.reduceLT, Nat.reduceLeDiff, Nat.reduceEqDiff, Nat.reduceAdd, Nat.reduceMul, Nat.reduceSub]
  refine vcLoop.intro (fun s L m1 => ∃ i : Nat, s 5 = .c (.v (.int .i64 i)) ∧ s 1 = .c (.v (.int .i64 (k + cnL cnS (es.take i)))) ∧ L = [] ∧ i ≤ es.length ∧ Grow m m1)
    (fun s _ _ => (es.length - ixS (s 5)).toNat) ⟨[], Sub.nil _, 0, ?_⟩ ?_
  · simp only [vcs, tbl, crs, List.map, reduceIte, Nat.reduceLT, Nat.reduceLeDiff, Nat.reduceEqDiff, Nat.reduceAdd, Nat.reduceMul, Nat.reduceSub]
    exact ⟨rfl, by simp [cnL], by omega, Grow.refl _⟩
  · rintro g L1 m1 ⟨i, h5, h1', rfl, hi, hg0⟩
    simp only [vcs, tbl, crs, List.map, reduceIte, Nat.reduceLT, Nat.reduceLeDiff, Nat.reduceEqDiff, Nat.reduceAdd, Nat.reduceMul, Nat.reduceSub] at h5 h1'
    simp only [vcs, tbl, crs, List.map, reduceIte, Nat.reduceLT, Nat.reduceLeDiff, Nat.reduceEqDiff, Nat.reduceAdd, Nat.reduceMul, Nat.reduceSub, h5, h1']
    refine ⟨fun hlt => ?_, fun hge => ?_⟩
    · have hlt : i < es.length := by omega
      have hks := cnL_take_succ cnS es i hlt
      have hkl := cnL_take_le cnS es (i + 1)
      obtain ⟨b, o, vs, Fk, rfl, hlen, hcell, hv, _⟩ := h.elemL PSort.row_len (by decide) (mkL_get mkS cnS k es i hlt)
      obtain ⟨k0, hk0⟩ : ∃ k0 : Int, k0 = k + cnL cnS (es.take i) := ⟨_, rfl⟩
      rw [← hk0] at h1' hv
      try rw [← hk0]
      obtain ⟨e, he⟩ : ∃ e, es[i] = e := ⟨_, rfl⟩
      try rw [he] at hks
      try rw [he] at hv
      have hxe := hx _ (List.getElem_mem hlt)
      rw [he] at hxe
      obtain ⟨e, dsc⟩ := e
      obtain ⟨us, rfl, hul, hv⟩ := PSort.vals hv
      obtain ⟨kd, op, nt, vl, up, ap, ks, ss⟩ := e
      obtain ⟨hK, hS⟩ := hxe
      rw [cnS, cnE, cnEs_eq, cnPs_eq] at hks
      rw [mkE, mkEs_eq, mkPs_eq] at hv
      simp only [Int.add_assoc] at hv
      obtain ⟨x, y, F1, F2, rfl, c1, c2⟩ := PExpr.valsK (mkL_len _ _ _ _) (mkL_len _ _ _ _) hv
      rw [cnE, cnEs_eq, cnPs_eq] at hcell
      simp only [List.cons_append, List.nil_append, Int.natCast_add] at hcell
      refine ⟨by omega, by omega, _, rfl, ?_⟩
      simp only [vcs, tbl, crs, List.map, reduceIte, Nat.reduceLT, Nat.reduceLeDiff, Nat.reduceEqDiff, Nat.reduceAdd, Nat.reduceMul, Nat.reduceSub, h5, h1', add_lit0, pure_fieldAt, Nat.add_zero]
      refine ⟨_, hg0.cell (hcell 0 _ rfl), ?_⟩
      simp only [vcs, tbl, crs, List.map, reduceIte, Nat.reduceLT, Nat.reduceLeDiff, Nat.reduceEqDiff, Nat.reduceAdd, Nat.reduceMul, Nat.reduceSub, h5, h1']
      refine ⟨fun h => by simp at h, fun _ => ?_⟩
      rw [wrap_id (by omega) (by omega)]
      try simp only [Int.add_assoc, Int.reduceAdd]
      refine ⟨by omega, by omega, _, rfl, ?_⟩
      simp only [vcs, tbl, crs, List.map, reduceIte, Nat.reduceLT, Nat.reduceLeDiff, Nat.reduceEqDiff, Nat.reduceAdd, Nat.reduceMul, Nat.reduceSub, h5, h1', add_lit0, pure_fieldAt, Nat.add_zero]
      refine ⟨_, hg0.cell (hcell 1 _ rfl), ?_⟩
      simp only [vcs, tbl, crs, List.map, reduceIte, Nat.reduceLT, Nat.reduceLeDiff, Nat.reduceEqDiff, Nat.reduceAdd, Nat.reduceMul, Nat.reduceSub, h5, h1']
      refine ⟨fun h => by simp at h, fun _ => ?_⟩
      rw [wrap_id (by omega) (by omega)]
      try simp only [Int.add_assoc, Int.reduceAdd]
      refine ⟨by omega, by omega, _, rfl, ?_⟩
      simp only [vcs, tbl, crs, List.map, reduceIte, Nat.reduceLT, Nat.reduceLeDiff, Nat.reduceEqDiff, Nat.reduceAdd, Nat.reduceMul, Nat.reduceSub, h5, h1', add_lit0, pure_fieldAt, Nat.add_zero]
      refine ⟨_, hg0.cell (hcell 2 _ rfl), ?_⟩
      simp only [vcs, tbl, crs, List.map, reduceIte, Nat.reduceLT, Nat.reduceLeDiff, Nat.reduceEqDiff, Nat.reduceAdd, Nat.reduceMul, Nat.reduceSub, h5, h1']
      rw [pure_rem (by decide)]
      simp only [vcs, tbl, crs, List.map, reduceIte, Nat.reduceLT, Nat.reduceLeDiff, Nat.reduceEqDiff, Nat.reduceAdd, Nat.reduceMul, Nat.reduceSub, h5, h1', Int.add_assoc, Int.reduceAdd]
      rw [pure_bneq ub4]
      simp only [vcs, tbl, crs, List.map, reduceIte, Nat.reduceLT, Nat.reduceLeDiff, Nat.reduceEqDiff, Nat.reduceAdd, Nat.reduceMul, Nat.reduceSub, h5, h1', Int.add_assoc, Int.reduceAdd]
      refine ⟨fun h => by simp at h, fun _ => ?_⟩
      rw [wrap_id (by omega) (by omega)]
      try simp only [Int.add_assoc, Int.reduceAdd]
      refine ⟨by omega, by omega, _, rfl, ?_⟩
      simp only [vcs, tbl, crs, List.map, reduceIte, Nat.reduceLT, Nat.reduceLeDiff, Nat.reduceEqDiff, Nat.reduceAdd, Nat.reduceMul, Nat.reduceSub, h5, h1', add_lit0, pure_fieldAt, Nat.add_zero]
      refine ⟨_, hg0.cell (hcell 3 _ rfl), ?_⟩
      simp only [vcs, tbl, crs, List.map, reduceIte, Nat.reduceLT, Nat.reduceLeDiff, Nat.reduceEqDiff, Nat.reduceAdd, Nat.reduceMul, Nat.reduceSub, h5, h1']
      refine ⟨fun h => by simp at h, fun _ => ?_⟩
      rw [wrap_id (by omega) (by omega)]
      try simp only [Int.add_assoc, Int.reduceAdd]
      refine ⟨by omega, by omega, _, rfl, ?_⟩
      simp only [vcs, tbl, crs, List.map, reduceIte, Nat.reduceLT, Nat.reduceLeDiff, Nat.reduceEqDiff, Nat.reduceAdd, Nat.reduceMul, Nat.reduceSub, h5, h1', add_lit0, pure_fieldAt, Nat.add_zero]
      refine ⟨_, hg0.cell (hcell 4 _ rfl), ?_⟩
      simp only [vcs, tbl, crs, List.map, reduceIte, Nat.reduceLT, Nat.reduceLeDiff, Nat.reduceEqDiff, Nat.reduceAdd, Nat.reduceMul, Nat.reduceSub, h5, h1']
      refine ⟨fun h => by simp at h, fun _ => ?_⟩
      rw [wrap_id (by omega) (by omega)]
      try simp only [Int.add_assoc, Int.reduceAdd]
      refine vcDrawn.intro (.take 0 (.take 1 (.take 2 (.take 3 (.take 4 (.take 5 (.take 6 (.take 7 (.br 8 (.take 9 .done) .nobr))))))))) (by kernel_rfl) ?_
      simp only [vcs, tbl, crs, List.map, reduceIte, Nat.reduceLT, Nat.reduceLeDiff, Nat.reduceEqDiff, Nat.reduceAdd, Nat.reduceMul, Nat.reduceSub, h5, h1']
      refine ⟨by omega, by omega, _, rfl, ?_⟩
      simp only [vcs, tbl, crs, List.map, reduceIte, Nat.reduceLT, Nat.reduceLeDiff, Nat.reduceEqDiff, Nat.reduceAdd, Nat.reduceMul, Nat.reduceSub, h5, h1', add_lit0, pure_fieldAt, Nat.add_zero]
      refine ⟨_, hg0.cell (hcell 5 _ rfl), ?_⟩
      simp only [vcs, tbl, crs, List.map, reduceIte, Nat.reduceLT, Nat.reduceLeDiff, Nat.reduceEqDiff, Nat.reduceAdd, Nat.reduceMul, Nat.reduceSub, h5, h1']
      refine (markText _ _ (by omega)).mono ?_
      rintro r w0 ⟨hx0, rfl⟩
      refine ⟨hx0, ?_⟩
      have hg1 := hg0.trans hx0
      simp only [vcs, tbl, crs, List.map, reduceIte, Nat.reduceLT, Nat.reduceLeDiff, Nat.reduceEqDiff, Nat.reduceAdd, Nat.reduceMul, Nat.reduceSub, h5, h1']
      refine ⟨fun h => by simp at h, fun _ => ?_⟩
      rw [wrap_id (by omega) (by omega)]
      try simp only [Int.add_assoc, Int.reduceAdd]
      refine ⟨by omega, by omega, _, rfl, ?_⟩
      simp only [vcs, tbl, crs, List.map, reduceIte, Nat.reduceLT, Nat.reduceLeDiff, Nat.reduceEqDiff, Nat.reduceAdd, Nat.reduceMul, Nat.reduceSub, h5, h1', add_lit0, pure_fieldAt, Nat.add_zero]
      refine ⟨_, hg1.cell (hcell 6 _ rfl), ?_⟩
      simp only [vcs, tbl, crs, List.map, reduceIte, Nat.reduceLT, Nat.reduceLeDiff, Nat.reduceEqDiff, Nat.reduceAdd, Nat.reduceMul, Nat.reduceSub, h5, h1']
      refine ⟨fun h => by simp at h, fun _ => ?_⟩
      rw [wrap_id (by omega) (by omega)]
      try simp only [Int.add_assoc, Int.reduceAdd]
      refine ⟨by omega, by omega, _, rfl, ?_⟩
      simp only [vcs, tbl, crs, List.map, reduceIte, Nat.reduceLT, Nat.reduceLeDiff, Nat.reduceEqDiff, Nat.reduceAdd, Nat.reduceMul, Nat.reduceSub, h5, h1', add_lit0, pure_fieldAt, Nat.add_zero]
      refine ⟨_, hg1.cell (hcell 7 _ rfl), ?_⟩
      simp only [vcs, tbl, crs, List.map, reduceIte, Nat.reduceLT, Nat.reduceLeDiff, Nat.reduceEqDiff, Nat.reduceAdd, Nat.reduceMul, Nat.reduceSub, h5, h1']
      refine ⟨fun h => by simp at h, fun _ => ?_⟩
      rw [wrap_id (by omega) (by omega)]
      try simp only [Int.add_assoc, Int.reduceAdd]
      refine ⟨by omega, by omega, _, rfl, ?_⟩
      simp only [vcs, tbl, crs, List.map, reduceIte, Nat.reduceLT, Nat.reduceLeDiff, Nat.reduceEqDiff, Nat.reduceAdd, Nat.reduceMul, Nat.reduceSub, h5, h1', add_lit0, pure_fieldAt, Nat.add_zero]
      refine ⟨_, hg1.cell (hcell 8 _ rfl), ?_⟩
      obtain ⟨a1, p1, rfl, _⟩ := c1.slice
      simp only [vcs, tbl, crs, List.map, reduceIte, Nat.reduceLT, Nat.reduceLeDiff, Nat.reduceEqDiff, Nat.reduceAdd, Nat.reduceMul, Nat.reduceSub, h5, h1', Int.add_assoc, Int.reduceAdd]
      refine (hK _ _ _ _ (c1.grow hg1) (by omega) (by omega)).mono ?_
      rintro r w1 ⟨hx1, rfl⟩
      have hg2 := hg1.trans hx1
      simp only [vcs, tbl, crs, List.map, reduceIte, Nat.reduceLT, Nat.reduceLeDiff, Nat.reduceEqDiff, Nat.reduceAdd, Nat.reduceMul, Nat.reduceSub, h5, h1', Int.add_assoc, Int.reduceAdd]
      refine ⟨fun h => absurd h (by omega), fun _ => ?_⟩
      refine ⟨by omega, by omega, _, rfl, ?_⟩
      simp only [vcs, tbl, crs, List.map, reduceIte, Nat.reduceLT, Nat.reduceLeDiff, Nat.reduceEqDiff, Nat.reduceAdd, Nat.reduceMul, Nat.reduceSub, h5, h1', add_lit0, pure_fieldAt, Nat.add_zero]
      refine ⟨_, hg2.cell (hcell 9 _ rfl), ?_⟩
      obtain ⟨a2, p2, rfl, _⟩ := c2.slice
      simp only [vcs, tbl, crs, List.map, reduceIte, Nat.reduceLT, Nat.reduceLeDiff, Nat.reduceEqDiff, Nat.reduceAdd, Nat.reduceMul, Nat.reduceSub, h5, h1', Int.add_assoc, Int.reduceAdd]
      refine (hS _ _ _ _ (c2.grow hg2) (by omega) (by omega)).mono ?_
      rintro r w2 ⟨hx2, rfl⟩
      have hg3 := hg2.trans hx2
      simp only [vcs, tbl, crs, List.map, reduceIte, Nat.reduceLT, Nat.reduceLeDiff, Nat.reduceEqDiff, Nat.reduceAdd, Nat.reduceMul, Nat.reduceSub, h5, h1', Int.add_assoc, Int.reduceAdd]
      refine ⟨fun h => absurd h (by omega), fun _ => ?_⟩
      refine ⟨by omega, by omega, _, rfl, ?_⟩
      simp only [vcs, tbl, crs, List.map, reduceIte, Nat.reduceLT, Nat.reduceLeDiff, Nat.reduceEqDiff, Nat.reduceAdd, Nat.reduceMul, Nat.reduceSub, h5, h1', add_lit0, pure_fieldAt, Nat.add_zero]
      refine ⟨_, hg3.cell (hcell 10 _ rfl), ?_⟩
      simp only [vcs, tbl, crs, List.map, reduceIte, Nat.reduceLT, Nat.reduceLeDiff, Nat.reduceEqDiff, Nat.reduceAdd, Nat.reduceMul, Nat.reduceSub, h5, h1']
      rw [pure_rem (by decide)]
      simp only [vcs, tbl, crs, List.map, reduceIte, Nat.reduceLT, Nat.reduceLeDiff, Nat.reduceEqDiff, Nat.reduceAdd, Nat.reduceMul, Nat.reduceSub, h5, h1', Int.add_assoc, Int.reduceAdd]
      rw [pure_bneq ub4]
      simp only [vcs, tbl, crs, List.map, reduceIte, Nat.reduceLT, Nat.reduceLeDiff, Nat.reduceEqDiff, Nat.reduceAdd, Nat.reduceMul, Nat.reduceSub, h5, h1', Int.add_assoc, Int.reduceAdd]
      refine ⟨fun h => by simp at h, fun _ => ?_⟩
      rw [wrap_id (by omega) (by omega)]
      try simp only [Int.add_assoc, Int.reduceAdd]
      rw [wrap_id (by omega) (by omega)]
      exact ⟨[], Sub.nil _, ⟨i + 1, by simp, by rw [hks]; simp; omega, rfl, by omega, hg3⟩, by omega⟩
    · have : i = es.length := by omega
      subst this
      exact ⟨hg0, by rw [List.take_length]⟩

set_option maxHeartbeats 1000000 in
theorem heldPlanS (es : List Plan) (hx : ∀ e ∈ es, HdB e) : HdC 89 Plan.row mkP cnP es := by
  intro m k v F h h0 h1
  obtain ⟨a, cap, rfl, hcap, hmax, hz⟩ := h.slice
  have hmax' : cap ≤ 9223372036854775807 := hmax
  refine fcalls_of_vc (args := [_, _]) follows_mixed Try.func89 rfl (by kernel_rfl) (by simp [Try.f89]) ?_
  simp only [Try.f89, vcs, tbl, crs, List.map, reduceIte, Nat.reduceLT, Nat.reduceLeDiff, Nat.reduceEqDiff, Nat.reduceAdd, Nat.reduceMul, Nat.reduceSub]
  refine vcLoop.intro (fun s L m1 => ∃ i : Nat, s 5 = .c (.v (.int .i64 i)) ∧ s 1 = .c (.v (.int .i64 (k + cnL cnP (es.take i)))) ∧ L = [] ∧ i ≤ es.length ∧ Grow m m1)
    (fun s _ _ => (es.length - ixS (s 5)).toNat) ⟨[], Sub.nil _, 0, ?_⟩ ?_
  · simp only [vcs, tbl, crs, List.map, reduceIte, Nat.reduceLT, Nat.reduceLeDiff, Nat.reduceEqDiff, Nat.reduceAdd, Nat.reduceMul, Nat.reduceSub]
    exact ⟨rfl, by simp [cnL], by omega, Grow.refl _⟩
  · rintro g L1 m1 ⟨i, h5, h1', rfl, hi, hg0⟩
    simp only [vcs, tbl, crs, List.map, reduceIte, Nat.reduceLT, Nat.reduceLeDiff, Nat.reduceEqDiff, Nat.reduceAdd, Nat.reduceMul, Nat.reduceSub] at h5 h1'
    simp only [vcs, tbl, crs, List.map, reduceIte, Nat.reduceLT, Nat.reduceLeDiff, Nat.reduceEqDiff, Nat.reduceAdd, Nat.reduceMul, Nat.reduceSub, h5, h1']
    refine ⟨fun hlt => ?_, fun hge => ?_⟩
    · have hlt : i < es.length := by omega
      have hks := cnL_take_succ cnP es i hlt
      have hkl := cnL_take_le cnP es (i + 1)
      obtain ⟨b, o, vs, Fk, rfl, hlen, hcell, hv, _⟩ := h.elemL Plan.row_len (by decide) (mkL_get mkP cnP k es i hlt)
      obtain ⟨k0, hk0⟩ : ∃ k0 : Int, k0 = k + cnL cnP (es.take i) := ⟨_, rfl⟩
      rw [← hk0] at h1' hv
      try rw [← hk0]
      obtain ⟨e, he⟩ : ∃ e, es[i] = e := ⟨_, rfl⟩
      try rw [he] at hks
      try rw [he] at hv
      have hxe := hx _ (List.getElem_mem hlt)
      rw [he] at hxe
      obtain ⟨t, on, wh, or, it, nm, dst, li⟩ := e
      obtain ⟨h1, h2, h3, h4⟩ := hxe
      rw [cnP, cnEs_eq, cnSs_eq, cnEEs_eq, cnEs_eq] at hks
      simp only [mkP, mkEs_eq, mkSs_eq, mkEEs_eq, Int.add_assoc] at hv
      obtain ⟨x1, x2, x3, x4, x5, x6, F1, F2, F3, F4, F5, F6, rfl, c1, c2, c3, c4, c5, c6, rfl⟩ := Plan.vals hv
      simp only [mkL_len] at c1 c2 c3 c4 c5 c6
      refine ⟨by omega, by omega, _, rfl, ?_⟩
      simp only [vcs, tbl, crs, List.map, reduceIte, Nat.reduceLT, Nat.reduceLeDiff, Nat.reduceEqDiff, Nat.reduceAdd, Nat.reduceMul, Nat.reduceSub, h5, h1', add_lit0, pure_fieldAt, Nat.add_zero]
      refine ⟨_, hg0.cell (hcell 0 _ rfl), ?_⟩
      obtain ⟨a0, p0, rfl, _⟩ := c1.slice
      simp only [vcs, tbl, crs, List.map, reduceIte, Nat.reduceLT, Nat.reduceLeDiff, Nat.reduceEqDiff, Nat.reduceAdd, Nat.reduceMul, Nat.reduceSub, h5, h1', Int.add_assoc, Int.reduceAdd]
      refine ((heldIntS t) _ _ _ _ (c1.grow hg0) (by omega) (by omega)).mono ?_
      rintro r w0 ⟨hx0, rfl⟩
      have hg1 := hg0.trans hx0
      simp only [vcs, tbl, crs, List.map, reduceIte, Nat.reduceLT, Nat.reduceLeDiff, Nat.reduceEqDiff, Nat.reduceAdd, Nat.reduceMul, Nat.reduceSub, h5, h1', Int.add_assoc, Int.reduceAdd]
      refine ⟨fun h => absurd h (by omega), fun _ => ?_⟩
      refine ⟨by omega, by omega, _, rfl, ?_⟩
      simp only [vcs, tbl, crs, List.map, reduceIte, Nat.reduceLT, Nat.reduceLeDiff, Nat.reduceEqDiff, Nat.reduceAdd, Nat.reduceMul, Nat.reduceSub, h5, h1', add_lit0, pure_fieldAt, Nat.add_zero]
      refine ⟨_, hg1.cell (hcell 1 _ rfl), ?_⟩
      obtain ⟨a1, p1, rfl, _⟩ := c2.slice
      simp only [vcs, tbl, crs, List.map, reduceIte, Nat.reduceLT, Nat.reduceLeDiff, Nat.reduceEqDiff, Nat.reduceAdd, Nat.reduceMul, Nat.reduceSub, h5, h1', Int.add_assoc, Int.reduceAdd]
      refine (h1 _ _ _ _ (c2.grow hg1) (by omega) (by omega)).mono ?_
      rintro r w1 ⟨hx1, rfl⟩
      have hg2 := hg1.trans hx1
      simp only [vcs, tbl, crs, List.map, reduceIte, Nat.reduceLT, Nat.reduceLeDiff, Nat.reduceEqDiff, Nat.reduceAdd, Nat.reduceMul, Nat.reduceSub, h5, h1', Int.add_assoc, Int.reduceAdd]
      refine ⟨fun h => absurd h (by omega), fun _ => ?_⟩
      refine ⟨by omega, by omega, _, rfl, ?_⟩
      simp only [vcs, tbl, crs, List.map, reduceIte, Nat.reduceLT, Nat.reduceLeDiff, Nat.reduceEqDiff, Nat.reduceAdd, Nat.reduceMul, Nat.reduceSub, h5, h1', add_lit0, pure_fieldAt, Nat.add_zero]
      refine ⟨_, hg2.cell (hcell 2 _ rfl), ?_⟩
      obtain ⟨a2, p2, rfl, _⟩ := c3.slice
      simp only [vcs, tbl, crs, List.map, reduceIte, Nat.reduceLT, Nat.reduceLeDiff, Nat.reduceEqDiff, Nat.reduceAdd, Nat.reduceMul, Nat.reduceSub, h5, h1', Int.add_assoc, Int.reduceAdd]
      refine (h2 _ _ _ _ (c3.grow hg2) (by omega) (by omega)).mono ?_
      rintro r w2 ⟨hx2, rfl⟩
      have hg3 := hg2.trans hx2
      simp only [vcs, tbl, crs, List.map, reduceIte, Nat.reduceLT, Nat.reduceLeDiff, Nat.reduceEqDiff, Nat.reduceAdd, Nat.reduceMul, Nat.reduceSub, h5, h1', Int.add_assoc, Int.reduceAdd]
      refine ⟨fun h => absurd h (by omega), fun _ => ?_⟩
      refine ⟨by omega, by omega, _, rfl, ?_⟩
      simp only [vcs, tbl, crs, List.map, reduceIte, Nat.reduceLT, Nat.reduceLeDiff, Nat.reduceEqDiff, Nat.reduceAdd, Nat.reduceMul, Nat.reduceSub, h5, h1', add_lit0, pure_fieldAt, Nat.add_zero]
      refine ⟨_, hg3.cell (hcell 3 _ rfl), ?_⟩
      obtain ⟨a3, p3, rfl, _⟩ := c4.slice
      simp only [vcs, tbl, crs, List.map, reduceIte, Nat.reduceLT, Nat.reduceLeDiff, Nat.reduceEqDiff, Nat.reduceAdd, Nat.reduceMul, Nat.reduceSub, h5, h1', Int.add_assoc, Int.reduceAdd]
      refine (h3 _ _ _ _ (c4.grow hg3) (by omega) (by omega)).mono ?_
      rintro r w3 ⟨hx3, rfl⟩
      have hg4 := hg3.trans hx3
      simp only [vcs, tbl, crs, List.map, reduceIte, Nat.reduceLT, Nat.reduceLeDiff, Nat.reduceEqDiff, Nat.reduceAdd, Nat.reduceMul, Nat.reduceSub, h5, h1', Int.add_assoc, Int.reduceAdd]
      refine ⟨fun h => absurd h (by omega), fun _ => ?_⟩
      refine ⟨by omega, by omega, _, rfl, ?_⟩
      simp only [vcs, tbl, crs, List.map, reduceIte, Nat.reduceLT, Nat.reduceLeDiff, Nat.reduceEqDiff, Nat.reduceAdd, Nat.reduceMul, Nat.reduceSub, h5, h1', add_lit0, pure_fieldAt, Nat.add_zero]
      refine ⟨_, hg4.cell (hcell 4 _ rfl), ?_⟩
      obtain ⟨a4, p4, rfl, _⟩ := c5.slice
      simp only [vcs, tbl, crs, List.map, reduceIte, Nat.reduceLT, Nat.reduceLeDiff, Nat.reduceEqDiff, Nat.reduceAdd, Nat.reduceMul, Nat.reduceSub, h5, h1', Int.add_assoc, Int.reduceAdd]
      refine (h4 _ _ _ _ (c5.grow hg4) (by omega) (by omega)).mono ?_
      rintro r w4 ⟨hx4, rfl⟩
      have hg5 := hg4.trans hx4
      simp only [vcs, tbl, crs, List.map, reduceIte, Nat.reduceLT, Nat.reduceLeDiff, Nat.reduceEqDiff, Nat.reduceAdd, Nat.reduceMul, Nat.reduceSub, h5, h1', Int.add_assoc, Int.reduceAdd]
      refine ⟨fun h => absurd h (by omega), fun _ => ?_⟩
      refine ⟨by omega, by omega, _, rfl, ?_⟩
      simp only [vcs, tbl, crs, List.map, reduceIte, Nat.reduceLT, Nat.reduceLeDiff, Nat.reduceEqDiff, Nat.reduceAdd, Nat.reduceMul, Nat.reduceSub, h5, h1', add_lit0, pure_fieldAt, Nat.add_zero]
      refine ⟨_, hg5.cell (hcell 5 _ rfl), ?_⟩
      obtain ⟨a5, p5, rfl, _⟩ := c6.slice
      simp only [vcs, tbl, crs, List.map, reduceIte, Nat.reduceLT, Nat.reduceLeDiff, Nat.reduceEqDiff, Nat.reduceAdd, Nat.reduceMul, Nat.reduceSub, h5, h1', Int.add_assoc, Int.reduceAdd]
      refine ((heldStringS nm) _ _ _ _ (c6.grow hg5) (by omega) (by omega)).mono ?_
      rintro r w5 ⟨hx5, rfl⟩
      have hg6 := hg5.trans hx5
      simp only [vcs, tbl, crs, List.map, reduceIte, Nat.reduceLT, Nat.reduceLeDiff, Nat.reduceEqDiff, Nat.reduceAdd, Nat.reduceMul, Nat.reduceSub, h5, h1', Int.add_assoc, Int.reduceAdd]
      refine ⟨fun h => absurd h (by omega), fun _ => ?_⟩
      refine ⟨by omega, by omega, _, rfl, ?_⟩
      simp only [vcs, tbl, crs, List.map, reduceIte, Nat.reduceLT, Nat.reduceLeDiff, Nat.reduceEqDiff, Nat.reduceAdd, Nat.reduceMul, Nat.reduceSub, h5, h1', add_lit0, pure_fieldAt, Nat.add_zero]
      refine ⟨_, hg6.cell (hcell 6 _ rfl), ?_⟩
      simp only [vcs, tbl, crs, List.map, reduceIte, Nat.reduceLT, Nat.reduceLeDiff, Nat.reduceEqDiff, Nat.reduceAdd, Nat.reduceMul, Nat.reduceSub, h5, h1']
      rw [pure_rem (by decide)]
      simp only [vcs, tbl, crs, List.map, reduceIte, Nat.reduceLT, Nat.reduceLeDiff, Nat.reduceEqDiff, Nat.reduceAdd, Nat.reduceMul, Nat.reduceSub, h5, h1', Int.add_assoc, Int.reduceAdd]
      rw [pure_bneq ub4]
      simp only [vcs, tbl, crs, List.map, reduceIte, Nat.reduceLT, Nat.reduceLeDiff, Nat.reduceEqDiff, Nat.reduceAdd, Nat.reduceMul, Nat.reduceSub, h5, h1', Int.add_assoc, Int.reduceAdd]
      refine ⟨fun h => by simp at h, fun _ => ?_⟩
      rw [wrap_id (by omega) (by omega)]
      try simp only [Int.add_assoc, Int.reduceAdd]
      refine ⟨by omega, by omega, _, rfl, ?_⟩
      simp only [vcs, tbl, crs, List.map, reduceIte, Nat.reduceLT, Nat.reduceLeDiff, Nat.reduceEqDiff, Nat.reduceAdd, Nat.reduceMul, Nat.reduceSub, h5, h1', add_lit0, pure_fieldAt, Nat.add_zero]
      refine ⟨_, hg6.cell (hcell 7 _ rfl), ?_⟩
      simp only [vcs, tbl, crs, List.map, reduceIte, Nat.reduceLT, Nat.reduceLeDiff, Nat.reduceEqDiff, Nat.reduceAdd, Nat.reduceMul, Nat.reduceSub, h5, h1']
      refine ⟨fun h => by simp at h, fun _ => ?_⟩
      rw [wrap_id (by omega) (by omega)]
      try simp only [Int.add_assoc, Int.reduceAdd]
      rw [wrap_id (by omega) (by omega)]
      exact ⟨[], Sub.nil _, ⟨i + 1, by simp, by rw [hks]; simp; omega, rfl, by omega, hg6⟩, by omega⟩
    · have : i = es.length := by omega
      subst this
      exact ⟨hg0, by rw [List.take_length]⟩

theorem hd_all : (∀ e, HdA e) ∧ (∀ p, HdB p) ∧ (∀ s, HdO s) := tree_ind (fun _ _ _ _ _ _ _ _ h1 h2 => ⟨heldPExprS _ h1, heldPlanS _ h2⟩) (fun _ _ _ _ _ _ _ _ h1 h2 h3 h4 => ⟨heldPExprSS _ h1, heldPExprS _ h2, heldPSortS _ h3, heldPExprS _ h4⟩) (fun _ _ h => h)
end Go.Proofs.Ytklligemdfnimaa
set_option linter.unusedVariables false
set_option linter.unusedSimpArgs false
set_option maxRecDepth 4000
namespace Go.Proofs.Ytklligemdfnimaa
open Go Go.Vc
/-- A function on trees: the result is new. -/
def ChC (g : FuncId) (ch : PExpr → PExpr) (e : PExpr) : Prop := ∀ (m : World) (vs : List Value) (F : List Nat), ValsF m e.row vs F →
  FCalls Try.prog g #[.agg vs.toArray] m fun r m' => Grow m m' ∧ ∃ us F', r = .agg us.toArray ∧ ValsF m' (ch e).row us F' ∧ Fresh m F' ∧ Own m' F'
theorem range1 : List.range 1 = [0] := rfl
theorem rep1 (z : List Value) : (List.replicate 1 z).flatten = z := by simp
theorem rep0 (z : List Value) : (List.replicate 0 z).flatten = [] := by simp
theorem range0 : List.range 0 = [] := rfl
theorem mapPExprs (es : List PExpr) (g : FuncId) (ch : PExpr → PExpr) (hx : ∀ e ∈ es, ChC g ch e) (hlen : es.length ≤ 1048576) (m : World) (v : Value) (F : List Nat) (h : CellF m (.sl es.length (es.flatMap PExpr.row)) v F) :
   FCalls Try.prog 152 #[v, .func (.func g) #[] #[]] m fun r m' => Grow m m' ∧ ∃ F', CellF m' (.sl es.length ((es.map ch).flatMap PExpr.row)) r F' ∧ Fresh m F' ∧ Own m' F' := by
  obtain ⟨a, cap, rfl, hcap, hmax, hz⟩ := h.slice
  have hmax' : cap ≤ 9223372036854775807 := hmax
  have hml : maxLen = 9223372036854775807 := rfl
  refine fcalls_of_vc (args := [_, _]) follows_mixed Try.func152 rfl (by kernel_rfl) (by simp [Try.f152]) ?_
  simp only [Try.f152, vcs, tbl, crs, List.map, reduceIte, Nat.reduceLT, Nat.reduceLeDiff, Nat.reduceEqDiff, Nat.reduceAdd, Nat.reduceMul, Nat.reduceSub]
  simp only [vcs, tbl, crs, List.map, reduceIte, Nat.reduceLT, Nat.reduceLeDiff, Nat.reduceEqDiff, Nat.reduceAdd, Nat.reduceMul, Nat.reduceSub, range0, rep0]
  refine vcLoop.ren 8 20 (by decide) (by decide) (fun f L m1 => ∃ (k : Nat) (dn : List Value) (F1 : List Nat) (cap' : Nat), f 11 = .c (.v (.int .i64 k)) ∧ f 5 = .c (.bs 20 k) ∧ L = [(20, .arr 56 dn cap')] ∧ k ≤ cap' ∧ cap' ≤ maxLen ∧ k ≤ es.length ∧ Grow m m1 ∧ ValsF m1 (((es.take k).map ch).flatMap PExpr.row) dn F1 ∧ Fresh m F1 ∧ Own m1 F1)
    (fun f _ _ => (es.length - ixS (f 11)).toNat) ⟨[(20, .arr 56 [] 0)], ?_, 0, [], [], 0, ?_⟩ ?_
  · simp only [vcs, tbl, crs, List.map, reduceIte, Nat.reduceLT, Nat.reduceLeDiff, Nat.reduceEqDiff, Nat.reduceAdd, Nat.reduceMul, Nat.reduceSub]
    exact Sub.one _ _
  · simp only [vcs, tbl, crs, List.map, reduceIte, Nat.reduceLT, Nat.reduceLeDiff, Nat.reduceEqDiff, Nat.reduceAdd, Nat.reduceMul, Nat.reduceSub]
    exact ⟨rfl, Nat.zero_le _, Nat.zero_le _, Grow.refl _, rfl, Fresh.nil m, Own.nil m⟩
  · rintro g' L1 m1 ⟨k, dn, F1, cap', h4, h5, rfl, hkc, hcm, hk, hg, hdn, hfr, how⟩
    have hdl : dn.length = k * 10 := by rw [hdn.length, flatMap_len PExpr.row_len, List.length_map, List.length_take]; congr 1; omega
    simp only [vcs, tbl, crs, List.map, reduceIte, Nat.reduceLT, Nat.reduceLeDiff, Nat.reduceEqDiff, Nat.reduceAdd, Nat.reduceMul, Nat.reduceSub] at h4 h5
    simp only [vcs, tbl, crs, List.map, reduceIte, Nat.reduceLT, Nat.reduceLeDiff, Nat.reduceEqDiff, Nat.reduceAdd, Nat.reduceMul, Nat.reduceSub, h4, h5]
    refine ⟨fun hlt => ?_, fun hge => ?_⟩
    · have hlt : k < es.length := by omega
      obtain ⟨ad, vs, Fk, ha, hvl, hcell, hv, _⟩ := h.elem PExpr.row_len (by decide) (List.getElem?_eq_getElem hlt)
      refine ⟨by omega, by omega, ad, ha, vs, hvl, fun j v hj => hg.cell (by simpa using hcell j v hj), ?_⟩
      have hx1 := hx _ (List.getElem_mem hlt)
      have hmt : ((es.take (k + 1)).map ch).flatMap PExpr.row = ((es.take k).map ch).flatMap PExpr.row ++ (ch es[k]).row := by rw [List.take_add_one, List.getElem?_eq_getElem hlt, List.map_append, List.flatMap_append]; simp only [Option.toList_some, List.map_cons, List.map_nil, List.flatMap_cons, List.flatMap_nil, List.append_nil]
      obtain ⟨e, he⟩ : ∃ e, es[k] = e := ⟨_, rfl⟩
      rw [he] at hx1 hv hmt
      have hv' := hv
      obtain ⟨kd, op, nt, vl, up, ap, ks, ss⟩ := e
      obtain ⟨x, y, G1, G2, rfl, _, c1, c2, rfl⟩ := PExpr.vals hv'
      obtain ⟨ax, px, rfl, _⟩ := c1.slice
      obtain ⟨ay, py, rfl, _⟩ := c2.slice
      simp only [vcs, tbl, crs, List.map, reduceIte, Nat.reduceLT, Nat.reduceLeDiff, Nat.reduceEqDiff, Nat.reduceAdd, Nat.reduceMul, Nat.reduceSub, h4, h5]
      refine (hx1 _ _ _ (hv.grow hg)).mono ?_
      rintro r m2 ⟨hg2, us, F2, rfl, hvr, hf2, ho2⟩
      generalize hce : ch (.mk kd op nt vl up ap ks ss) = e' at hvr hmt
      have hvr' := hvr
      obtain ⟨kd', op', nt', vl', up', ap', ks', ss'⟩ := e'
      obtain ⟨x', y', G1', G2', rfl, _, c1', c2', rfl⟩ := PExpr.vals hvr'
      obtain ⟨ax', px', rfl, _⟩ := c1'.slice
      obtain ⟨ay', py', rfl, _⟩ := c2'.slice
      simp only [vcs, tbl, crs, List.map, reduceIte, Nat.reduceLT, Nat.reduceLeDiff, Nat.reduceEqDiff, Nat.reduceAdd, Nat.reduceMul, Nat.reduceSub, h4, h5, range1, rep1, Nat.zero_mul, Nat.zero_add, Nat.le_refl, hdl]
      refine ⟨hvr.oneCell, by omega, by omega, fun cap2 hc1 hc2 => ?_⟩
      rw [wrap_id (by omega) (by omega)]
      refine ⟨[_], Sub.head _ _ _, ⟨k + 1, _, F1 ++ (G1' ++ G2'), cap2, by simp, rfl, rfl, by omega, by omega, by omega, hg.trans hg2, ?_, hfr.join hg hdn.vis hf2, (how.grow hg2).app ho2⟩, by omega⟩
      rw [hmt, List.take_of_length_le (l := dn) (by omega)]
      exact (hdn.grow hg2).join hvr
    · have : k = es.length := by omega
      subst this
      intro b m' hp
      rw [List.take_length] at hdn
      exact ⟨hg.trans hp.grow, CellF.of_pubO hp hdn hg hfr how hkc hcm⟩

theorem ints_vals {m : World} : ∀ {es : List Int} {vs : List Value} {F : List Nat}, ValsF m (es.flatMap irow) vs F → F = []
  | [], vs, F, h => by obtain ⟨rfl, rfl⟩ := valsF_nil h; rfl
  | e :: es, vs, F, h => by
    obtain ⟨r, rfl, h1, _⟩ := valsF_lit (u := .int .i64 e) (ds := es.flatMap irow) h
    exact ints_vals h1
theorem strs_vals {m : World} : ∀ {es : List ByteArray} {vs : List Value} {F : List Nat}, ValsF m (es.flatMap srow) vs F → F = []
  | [], vs, F, h => by obtain ⟨rfl, rfl⟩ := valsF_nil h; rfl
  | e :: es, vs, F, h => by
    obtain ⟨r, rfl, h1, _⟩ := valsF_lit (u := .string e) (ds := es.flatMap srow) h
    exact strs_vals h1

theorem cloneInts (es : List Int) (hlen : es.length ≤ 1048576) (m : World) (v : Value) (F : List Nat) (h : CellF m (.sl es.length (es.flatMap irow)) v F) :
   FCalls Try.prog 150 #[v] m fun r m' => Grow m m' ∧ ∃ F', CellF m' (.sl es.length (es.flatMap irow)) r F' ∧ Fresh m F' ∧ Own m' F' := by
  obtain ⟨a, cap, rfl, hcap, hmax, hz⟩ := h.slice
  have hml : maxLen = 9223372036854775807 := rfl
  refine fcalls_of_vc (args := [_]) follows_mixed Try.func150 rfl (by kernel_rfl) (by simp [Try.f150]) ?_
  simp only [Try.f150, vcs, tbl, crs, List.map, reduceIte, Nat.reduceLT, Nat.reduceLeDiff, Nat.reduceEqDiff, Nat.reduceAdd, Nat.reduceMul, Nat.reduceSub]
  rw [pure_slnil (e := 3) (by kernel_rfl)]
  simp only [vcs, tbl, crs, List.map, reduceIte, Nat.reduceLT, Nat.reduceLeDiff, Nat.reduceEqDiff, Nat.reduceAdd, Nat.reduceMul, Nat.reduceSub]
  refine ⟨fun hn => ?_, fun hn => ?_⟩
  · have ha : a = none := by simpa using hn
    have : es = [] := by have := hz ha; exact List.eq_nil_of_length_eq_zero (by omega)
    subst this
    exact ⟨Grow.refl _, [], ⟨none, 0, rfl, Nat.le_refl _, Nat.zero_le _, fun _ => rfl, .inl ⟨rfl, rfl⟩⟩, Fresh.nil _, Own.nil _⟩
  · obtain ⟨ad, rfl⟩ : ∃ ad, a = some ad := by cases a with | none => simp at hn | some ad => exact ⟨ad, rfl⟩
    obtain ⟨vs, G, hvl, hcell, hv⟩ := h.news
    have hvl2 := hvl
    rw [flatMap_len irow_len, Nat.mul_one] at hvl2
    have hv0 := hv
    simp only [vcs, tbl, crs, List.map, reduceIte, Nat.reduceLT, Nat.reduceLeDiff, Nat.reduceEqDiff, Nat.reduceAdd, Nat.reduceMul, Nat.reduceSub, range0, rep0, Nat.zero_mul, Nat.mul_one, Nat.zero_le, Nat.zero_add]
    refine ⟨vs, hvl2, hcell, hv.oneCell, by omega, by omega, fun cap2 hc1 hc2 => ?_⟩
    intro b m' hp
    obtain rfl := ints_vals hv0
    exact ⟨hp.grow, CellF.of_pubO hp hv0 (Grow.refl _) (Fresh.nil _) (Own.nil _) hc1 hc2⟩

theorem cloneStrs (es : List ByteArray) (hlen : es.length ≤ 1048576) (m : World) (v : Value) (F : List Nat) (h : CellF m (.sl es.length (es.flatMap srow)) v F) :
   FCalls Try.prog 151 #[v] m fun r m' => Grow m m' ∧ ∃ F', CellF m' (.sl es.length (es.flatMap srow)) r F' ∧ Fresh m F' ∧ Own m' F' := by
  obtain ⟨a, cap, rfl, hcap, hmax, hz⟩ := h.slice
  have hml : maxLen = 9223372036854775807 := rfl
  refine fcalls_of_vc (args := [_]) follows_mixed Try.func151 rfl (by kernel_rfl) (by simp [Try.f151]) ?_
  simp only [Try.f151, vcs, tbl, crs, List.map, reduceIte, Nat.reduceLT, Nat.reduceLeDiff, Nat.reduceEqDiff, Nat.reduceAdd, Nat.reduceMul, Nat.reduceSub]
  rw [pure_slnil (e := 9) (by kernel_rfl)]
  simp only [vcs, tbl, crs, List.map, reduceIte, Nat.reduceLT, Nat.reduceLeDiff, Nat.reduceEqDiff, Nat.reduceAdd, Nat.reduceMul, Nat.reduceSub]
  refine ⟨fun hn => ?_, fun hn => ?_⟩
  · have ha : a = none := by simpa using hn
    have : es = [] := by have := hz ha; exact List.eq_nil_of_length_eq_zero (by omega)
    subst this
    exact ⟨Grow.refl _, [], ⟨none, 0, rfl, Nat.le_refl _, Nat.zero_le _, fun _ => rfl, .inl ⟨rfl, rfl⟩⟩, Fresh.nil _, Own.nil _⟩
  · obtain ⟨ad, rfl⟩ : ∃ ad, a = some ad := by cases a with | none => simp at hn | some ad => exact ⟨ad, rfl⟩
    obtain ⟨vs, G, hvl, hcell, hv⟩ := h.news
    have hvl2 := hvl
    rw [flatMap_len srow_len, Nat.mul_one] at hvl2
    have hv0 := hv
    simp only [vcs, tbl, crs, List.map, reduceIte, Nat.reduceLT, Nat.reduceLeDiff, Nat.reduceEqDiff, Nat.reduceAdd, Nat.reduceMul, Nat.reduceSub, range0, rep0, Nat.zero_mul, Nat.mul_one, Nat.zero_le, Nat.zero_add]
    refine ⟨vs, hvl2, hcell, hv.oneCell, by omega, by omega, fun cap2 hc1 hc2 => ?_⟩
    intro b m' hp
    obtain rfl := strs_vals hv0
    exact ⟨hp.grow, CellF.of_pubO hp hv0 (Grow.refl _) (Fresh.nil _) (Own.nil _) hc1 hc2⟩

end Go.Proofs.Ytklligemdfnimaa
set_option linter.unusedVariables false
set_option linter.unusedSimpArgs false
set_option maxRecDepth 4000
namespace Go.Proofs.Ytklligemdfnimaa
open Go Go.Vc
def mapS (ch : PExpr → PExpr) : PSort → PSort
  | .mk e d => .mk (ch e) d
def mapP (ch : PExpr → PExpr) : Plan → Plan
  | .mk t on wh or it nm ds li => .mk t (on.map fun l => l.map ch) (wh.map ch) (or.map (mapS ch)) (it.map ch) nm ds li

theorem Plan.mk_valsK {m : World} {t on wh or it nm ds li} {no nw nr ni : Nat} (e1 : on.length = no) (e2 : wh.length = nw) (e3 : or.length = nr) (e4 : it.length = ni) {a b c d e f : Value} {F1 F2 F3 F4 F5 F6 : List Nat} (h1 : CellF m (.sl t.length (t.flatMap irow)) a F1) (h2 : CellF m (.sl no (on.flatMap erow)) b F2)
    (h3 : CellF m (.sl nw (wh.flatMap PExpr.row)) c F3) (h4 : CellF m (.sl nr (or.flatMap PSort.row)) d F4) (h5 : CellF m (.sl ni (it.flatMap PExpr.row)) e F5) (h6 : CellF m (.sl nm.length (nm.flatMap srow)) f F6) :
    ValsF m (Plan.mk t on wh or it nm ds li).row [a, b, c, d, e, f, .bool ds, .int .i64 li] (F1 ++ (F2 ++ (F3 ++ (F4 ++ (F5 ++ F6))))) := by
  subst e1 e2 e3 e4
  exact Plan.mk_vals h1 h2 h3 h4 h5 h6
theorem CellF.nilS (m : World) : CellF m (.sl 0 []) (.slice none 0 0) [] := ⟨none, 0, rfl, Nat.le_refl _, Nat.zero_le _, fun _ => rfl, .inl ⟨rfl, rfl⟩⟩

set_option maxHeartbeats 1000000 in
theorem mapPlan_c (t on wh or it nm ds li) (g : FuncId) (ch : PExpr → PExpr) (h1 : ∀ l ∈ on, ∀ e ∈ l, ChC g ch e) (h2 : ∀ e ∈ wh, ChC g ch e) (h3 : ∀ s ∈ or, ∀ e d, s = .mk e d → ChC g ch e) (h4 : ∀ e ∈ it, ChC g ch e)
   (hs : PSmall (.mk t on wh or it nm ds li)) (m : World) (vs : List Value) (F : List Nat) (h : ValsF m (Plan.mk t on wh or it nm ds li).row vs F) :
   FCalls Try.prog 100 #[.agg vs.toArray, .func (.func g) #[] #[]] m fun r m' => Grow m m' ∧ ∃ us F', r = .agg us.toArray ∧ ValsF m' (mapP ch (.mk t on wh or it nm ds li)).row us F' ∧ Fresh m F' ∧ Own m' F' := by
  have hml : maxLen = 9223372036854775807 := rfl
  obtain ⟨v1, v2, v3, v4, v5, v6, F1, F2, F3, F4, F5, F6, rfl, c1, c2, c3, c4, c5, c6, rfl⟩ := Plan.vals h
  obtain ⟨at_, pt, rfl, _⟩ := c1.slice
  obtain ⟨ao, po, rfl, hao, hmo, _⟩ := c2.slice
  obtain ⟨aw, pw, rfl, _⟩ := c3.slice
  obtain ⟨ar, pr, rfl, har, hmr, _⟩ := c4.slice
  obtain ⟨ai, pi, rfl, _⟩ := c5.slice
  obtain ⟨an, pn, rfl, _⟩ := c6.slice
  obtain ⟨s1, s2, s3, s4, s5, s6, s7, s8, s9, s10, s11⟩ := hs
  clear h
  refine fcalls_of_vc (args := [_, _]) follows_mixed Try.func100 rfl (by kernel_rfl) (by simp [Try.f100]) ?_
  simp only [Try.f100, vcs, tbl, crs, List.map, reduceIte, Nat.reduceLT, Nat.reduceLeDiff, Nat.reduceEqDiff, Nat.reduceAdd, Nat.reduceMul, Nat.reduceSub, List.all_cons, List.all_nil, Bool.and_true, Bool.and_self, ne_eq, reduceCtorEq, not_false_eq_true, and_self]
  refine vcDrawn.introL (.take 0 (.take 1 (.take 3 (.take 4 (.take 6 (.take 7 (.take 8 (.take 9 (.late 11 (.br 2 (.br 5 (.take 10 (.mk 11 (.br 12 .done .nobr))) .nobr) .nobr)))))))))) (by kernel_rfl) ?_
  simp only [vcs, tbl, crs, List.map, reduceIte, Nat.reduceLT, Nat.reduceLeDiff, Nat.reduceEqDiff, Nat.reduceAdd, Nat.reduceMul, Nat.reduceSub, List.all_cons, List.all_nil, Bool.and_true, Bool.and_self, ne_eq, reduceCtorEq, not_false_eq_true, and_self]
  refine (cloneInts _ s1 _ _ _ c1).mono ?_
  rintro r m1 ⟨hg1, Ft, ct, hft, hot⟩
  obtain ⟨at1, pt1, rfl, _⟩ := ct.slice
  refine ⟨hg1, ?_⟩
  simp only [vcs, tbl, crs, List.map, reduceIte, Nat.reduceLT, Nat.reduceLeDiff, Nat.reduceEqDiff, Nat.reduceAdd, Nat.reduceMul, Nat.reduceSub, List.all_cons, List.all_nil, Bool.and_true, Bool.and_self, ne_eq, reduceCtorEq, not_false_eq_true, and_self]
  refine (cloneStrs _ s11 _ _ _ (c6.grow hg1)).mono ?_
  rintro r m2 ⟨hg2, Fn, cn, hfn, hon⟩
  obtain ⟨an1, pn1, rfl, _⟩ := cn.slice
  refine ⟨hg2, ?_⟩
  have no0 : NewOwn m m2 (Ft ++ Fn) := (NewOwn.step ⟨hg1, hft, hot⟩ hg2 hfn hon)
  have ct := ct.grow hg2
  simp only [vcs, tbl, crs, List.map, reduceIte, Nat.reduceLT, Nat.reduceLeDiff, Nat.reduceEqDiff, Nat.reduceAdd, Nat.reduceMul, Nat.reduceSub, List.all_cons, List.all_nil, Bool.and_true, Bool.and_self, ne_eq, reduceCtorEq, not_false_eq_true, and_self]
  refine vcLoop.intro (fun f L m1 => ∃ (k : Nat) (dn : List Value) (G : List Nat), f 24 = .c (.v (.int .i64 k)) ∧ k ≤ on.length ∧ CellF m1 (.sl t.length (t.flatMap irow)) (.slice at1 t.length pt1) Ft ∧ CellF m1 (.sl nm.length (nm.flatMap srow)) (.slice an1 nm.length pn1) Fn ∧
     ValsF m1 (((on.take k).map fun l => l.map ch).flatMap erow) dn G ∧ NewOwn m m1 ((Ft ++ Fn) ++ G) ∧ ((k = 0 ∧ L = [(5, .str 74 [.v (.slice at1 t.length pt1), .v (.slice none 0 0), .v (.slice none 0 0), .v (.slice none 0 0), .v (.slice none 0 0), .v (.slice an1 nm.length pn1), .v (.bool ds), .v (.int .i64 li)]), (4, .str 74 [.v (.slice none 0 0), .v (.slice none 0 0), .v (.slice none 0 0), .v (.slice none 0 0), .v (.slice none 0 0), .v (.slice none 0 0), .v (.bool false), .v (.int .i64 0)]), (2, .str 74 [.v (.slice at_ t.length pt), .v (.slice ao on.length po), .v (.slice aw wh.length pw), .v (.slice ar or.length pr), .v (.slice ai it.length pi), .v (.slice an nm.length pn), .v (.bool ds), .v (.int .i64 li)])]) ∨ (0 < k ∧ ∃ cap1, k ≤ cap1 ∧ cap1 ≤ maxLen ∧ L = [(5, .str 74 [.v (.slice at1 t.length pt1), .bs 34 k, .v (.slice none 0 0), .v (.slice none 0 0), .v (.slice none 0 0), .v (.slice an1 nm.length pn1), .v (.bool ds), .v (.int .i64 li)]), (34, .arr 53 dn cap1), (4, .str 74 [.v (.slice none 0 0), .v (.slice none 0 0), .v (.slice none 0 0), .v (.slice none 0 0), .v (.slice none 0 0), .v (.slice none 0 0), .v (.bool false), .v (.int .i64 0)]), (2, .str 74 [.v (.slice at_ t.length pt), .v (.slice ao on.length po), .v (.slice aw wh.length pw), .v (.slice ar or.length pr), .v (.slice ai it.length pi), .v (.slice an nm.length pn), .v (.bool ds), .v (.int .i64 li)])])))
    (fun f _ _ => (on.length - ixS (f 24)).toNat) ⟨[(5, .str 74 [.v (.slice at1 t.length pt1), .v (.slice none 0 0), .v (.slice none 0 0), .v (.slice none 0 0), .v (.slice none 0 0), .v (.slice an1 nm.length pn1), .v (.bool ds), .v (.int .i64 li)]), (4, .str 74 [.v (.slice none 0 0), .v (.slice none 0 0), .v (.slice none 0 0), .v (.slice none 0 0), .v (.slice none 0 0), .v (.slice none 0 0), .v (.bool false), .v (.int .i64 0)]), (2, .str 74 [.v (.slice at_ t.length pt), .v (.slice ao on.length po), .v (.slice aw wh.length pw), .v (.slice ar or.length pr), .v (.slice ai it.length pi), .v (.slice an nm.length pn), .v (.bool ds), .v (.int .i64 li)])], Sub.at 5 rfl (Sub.at 4 rfl (Sub.at 2 rfl (Sub.nil _))), 0, [], [], ?_⟩ ?_
  · simp only [vcs, tbl, crs, List.map, reduceIte, Nat.reduceLT, Nat.reduceLeDiff, Nat.reduceEqDiff, Nat.reduceAdd, Nat.reduceMul, Nat.reduceSub, List.all_cons, List.all_nil, Bool.and_true, Bool.and_self, ne_eq, reduceCtorEq, not_false_eq_true, and_self]
    exact ⟨rfl, Nat.zero_le _, ct, cn, rfl, by simpa using no0, by first | trivial | exact .inl trivial | exact .inl ⟨rfl, rfl⟩⟩
  · rintro g' L1 m3 ⟨k, dn, G, h24, hk, ct3, cn3, hdn, no3, hL⟩
    have hg03 := no3.grow
    have hdl : dn.length = k := by rw [hdn.length, flatMap_len erow_len, List.length_map, List.length_take]; omega
    rcases hL with ⟨rfl, rfl⟩ | ⟨hk0, cap1, hc1, hc2, rfl⟩
    · have hdn0 : dn = [] := List.eq_nil_of_length_eq_zero hdl
      simp only [vcs, tbl, crs, List.map, reduceIte, Nat.reduceLT, Nat.reduceLeDiff, Nat.reduceEqDiff, Nat.reduceAdd, Nat.reduceMul, Nat.reduceSub, List.all_cons, List.all_nil, Bool.and_true, Bool.and_self, ne_eq, reduceCtorEq, not_false_eq_true, and_self] at h24
      simp only [vcs, tbl, crs, List.map, reduceIte, Nat.reduceLT, Nat.reduceLeDiff, Nat.reduceEqDiff, Nat.reduceAdd, Nat.reduceMul, Nat.reduceSub, List.all_cons, List.all_nil, Bool.and_true, Bool.and_self, ne_eq, reduceCtorEq, not_false_eq_true, and_self, h24]
      refine ⟨fun hlt => ?_, fun hge => ?_⟩
      · skip
        have hlt : 0 < on.length := by omega
        obtain ⟨ad, vs, Fk, ha, hvl, hcell, hv, _⟩ := c2.elem erow_len (by decide) (List.getElem?_eq_getElem hlt)
        obtain ⟨u, hu⟩ : ∃ u, vs[0]? = some u := ⟨vs[0]'(by omega), List.getElem?_eq_getElem _⟩
        have hcu := hg03.cell (hcell 0 u hu)
        rw [add0] at hcu
        have hvu := (ValsF.one hv hu).grow hg03
        refine ⟨by omega, by omega, ad, ha, u, hcu, ?_⟩
        obtain ⟨au, pu, rfl, _⟩ := hvu.slice
        refine vcDrawn.intro (.take 0 (.take 1 (.take 2 (.take 3 (.br 4 (.br 5 (.br 6 (.take 7 (.br 8 .done .nobr)) .nobr) .nobr) .nobr))))) (by kernel_rfl) ?_
        simp only [vcs, tbl, crs, List.map, reduceIte, Nat.reduceLT, Nat.reduceLeDiff, Nat.reduceEqDiff, Nat.reduceAdd, Nat.reduceMul, Nat.reduceSub, List.all_cons, List.all_nil, Bool.and_true, Bool.and_self, ne_eq, reduceCtorEq, not_false_eq_true, and_self, h24]
        refine (mapPExprs _ g ch (h1 _ (List.getElem_mem hlt)) (s3 _ (List.getElem_mem hlt)) _ _ _ hvu).mono ?_
        rintro r m4 ⟨hg4, Fr, cr, hfr, hor⟩
        obtain ⟨ar1, pr1, rfl, _⟩ := cr.slice
        refine ⟨hg4, ?_⟩
        simp only [vcs, tbl, crs, List.map, reduceIte, Nat.reduceLT, Nat.reduceLeDiff, Nat.reduceEqDiff, Nat.reduceAdd, Nat.reduceMul, Nat.reduceSub, List.all_cons, List.all_nil, Bool.and_true, Bool.and_self, ne_eq, reduceCtorEq, not_false_eq_true, and_self, h24, range1, rep1, Nat.zero_mul, Nat.zero_add, Nat.le_refl, Nat.mul_one, hdl]
        refine ⟨cr.single'.oneCell, by omega, fun h => h.elim, fun _ cap2 hc3 hc4 => ?_⟩
        have hmt : ((on.take (0 + 1)).map fun l => l.map ch).flatMap erow = ((on.take 0).map fun l => l.map ch).flatMap erow ++ erow (on[0].map ch) := by rw [List.take_add_one, List.getElem?_eq_getElem hlt, List.map_append, List.flatMap_append]; simp only [Option.toList_some, List.map_cons, List.map_nil, List.flatMap_cons, List.flatMap_nil, List.append_nil]
        have hcr : ValsF m4 (erow (on[0].map ch)) [.slice ar1 on[0].length pr1] Fr := by
          rw [erow, List.length_map]; exact ValsF.single cr
        rw [wrap_id (by omega) (by omega)]
        refine ⟨_, Sub.at 5 rfl (Sub.at 34 rfl (Sub.at 4 rfl (Sub.at 2 rfl (Sub.nil _)))), ⟨0 + 1, dn ++ [.slice ar1 on[0].length pr1], G ++ Fr, by simp, by omega, ct3.grow hg4, cn3.grow hg4, ?_, ?_, .inr ⟨by omega, cap2, by omega, hc4, by simp [hdn0]⟩⟩, by omega⟩
        · rw [hmt]; exact (hdn.grow hg4).join hcr
        · rw [← List.append_assoc]; exact no3.step hg4 hfr hor
      · have hon0 : on = [] := List.eq_nil_of_length_eq_zero (by omega)
        have hdn : ValsF m3 ((on.map fun l => l.map ch).flatMap erow) dn G := by rw [hon0]; exact hdn
        refine (mapPExprs _ g ch h2 s5 _ _ _ (c3.grow hg03)).mono ?_
        rintro r m5 ⟨hg5, Fw, cw, hfw, how⟩
        obtain ⟨aw1, pw1, rfl, _⟩ := cw.slice
        have no5 := no3.step hg5 hfw how
        simp only [vcs, tbl, crs, List.map, reduceIte, Nat.reduceLT, Nat.reduceLeDiff, Nat.reduceEqDiff, Nat.reduceAdd, Nat.reduceMul, Nat.reduceSub, List.all_cons, List.all_nil, Bool.and_true, Bool.and_self, ne_eq, reduceCtorEq, not_false_eq_true, and_self, h24]
        refine vcLoop.intro (fun f L m1 => ∃ (k2 : Nat) (dn2 : List Value) (G2 : List Nat), f 45 = .c (.v (.int .i64 k2)) ∧ k2 ≤ or.length ∧ CellF m1 (.sl t.length (t.flatMap irow)) (.slice at1 t.length pt1) Ft ∧ CellF m1 (.sl nm.length (nm.flatMap srow)) (.slice an1 nm.length pn1) Fn ∧
           ValsF m1 ((on.map fun l => l.map ch).flatMap erow) dn G ∧ CellF m1 (.sl wh.length ((wh.map ch).flatMap PExpr.row)) (.slice aw1 wh.length pw1) Fw ∧ ValsF m1 (((or.take k2).map (mapS ch)).flatMap PSort.row) dn2 G2 ∧
           NewOwn m m1 ((((Ft ++ Fn) ++ G) ++ Fw) ++ G2) ∧ ((k2 = 0 ∧ L = [(5, .str 74 [.v (.slice at1 t.length pt1), .v (.slice none 0 0), .v (.slice aw1 wh.length pw1), .v (.slice none 0 0), .v (.slice none 0 0), .v (.slice an1 nm.length pn1), .v (.bool ds), .v (.int .i64 li)]), (4, .str 74 [.v (.slice none 0 0), .v (.slice none 0 0), .v (.slice none 0 0), .v (.slice none 0 0), .v (.slice none 0 0), .v (.slice none 0 0), .v (.bool false), .v (.int .i64 0)]), (2, .str 74 [.v (.slice at_ t.length pt), .v (.slice ao on.length po), .v (.slice aw wh.length pw), .v (.slice ar or.length pr), .v (.slice ai it.length pi), .v (.slice an nm.length pn), .v (.bool ds), .v (.int .i64 li)])]) ∨ (0 < k2 ∧ ∃ cap2, k2 ≤ cap2 ∧ cap2 ≤ maxLen ∧ L = [(5, .str 74 [.v (.slice at1 t.length pt1), .v (.slice none 0 0), .v (.slice aw1 wh.length pw1), .bs 59 k2, .v (.slice none 0 0), .v (.slice an1 nm.length pn1), .v (.bool ds), .v (.int .i64 li)]), (59, .arr 122 dn2 cap2), (4, .str 74 [.v (.slice none 0 0), .v (.slice none 0 0), .v (.slice none 0 0), .v (.slice none 0 0), .v (.slice none 0 0), .v (.slice none 0 0), .v (.bool false), .v (.int .i64 0)]), (2, .str 74 [.v (.slice at_ t.length pt), .v (.slice ao on.length po), .v (.slice aw wh.length pw), .v (.slice ar or.length pr), .v (.slice ai it.length pi), .v (.slice an nm.length pn), .v (.bool ds), .v (.int .i64 li)])])))
          (fun f _ _ => (or.length - ixS (f 45)).toNat) ⟨[(5, .str 74 [.v (.slice at1 t.length pt1), .v (.slice none 0 0), .v (.slice aw1 wh.length pw1), .v (.slice none 0 0), .v (.slice none 0 0), .v (.slice an1 nm.length pn1), .v (.bool ds), .v (.int .i64 li)]), (4, .str 74 [.v (.slice none 0 0), .v (.slice none 0 0), .v (.slice none 0 0), .v (.slice none 0 0), .v (.slice none 0 0), .v (.slice none 0 0), .v (.bool false), .v (.int .i64 0)]), (2, .str 74 [.v (.slice at_ t.length pt), .v (.slice ao on.length po), .v (.slice aw wh.length pw), .v (.slice ar or.length pr), .v (.slice ai it.length pi), .v (.slice an nm.length pn), .v (.bool ds), .v (.int .i64 li)])], Sub.at 5 rfl (Sub.at 4 rfl (Sub.at 2 rfl (Sub.nil _))), 0, [], [], ?_⟩ ?_
        · simp only [vcs, tbl, crs, List.map, reduceIte, Nat.reduceLT, Nat.reduceLeDiff, Nat.reduceEqDiff, Nat.reduceAdd, Nat.reduceMul, Nat.reduceSub, List.all_cons, List.all_nil, Bool.and_true, Bool.and_self, ne_eq, reduceCtorEq, not_false_eq_true, and_self, h24]
          exact ⟨rfl, Nat.zero_le _, ct3.grow hg5, cn3.grow hg5, hdn.grow hg5, cw, rfl, by simpa using no5, by first | trivial | exact .inl trivial | exact .inl ⟨rfl, rfl⟩⟩
        · rintro g2 L2 m7 ⟨k2, dn2, G2, h45, hk2, ct7, cn7, hdn7, cw7, hdo7, no7, hL2⟩
          have hg07 := no7.grow
          have hdl2 : dn2.length = k2 * 11 := by rw [hdo7.length, flatMap_len PSort.row_len, List.length_map, List.length_take]; congr 1; omega
          rcases hL2 with ⟨rfl, rfl⟩ | ⟨hk20, cap2, hd1, hd2, rfl⟩
          · have hdo0 : dn2 = [] := List.eq_nil_of_length_eq_zero (by omega)
            simp only [vcs, tbl, crs, List.map, reduceIte, Nat.reduceLT, Nat.reduceLeDiff, Nat.reduceEqDiff, Nat.reduceAdd, Nat.reduceMul, Nat.reduceSub, List.all_cons, List.all_nil, Bool.and_true, Bool.and_self, ne_eq, reduceCtorEq, not_false_eq_true, and_self] at h45
            simp only [vcs, tbl, crs, List.map, reduceIte, Nat.reduceLT, Nat.reduceLeDiff, Nat.reduceEqDiff, Nat.reduceAdd, Nat.reduceMul, Nat.reduceSub, List.all_cons, List.all_nil, Bool.and_true, Bool.and_self, ne_eq, reduceCtorEq, not_false_eq_true, and_self, h45]
            refine ⟨fun hlt => ?_, fun hge => ?_⟩
            · skip
              have hlt : 0 < or.length := by omega
              obtain ⟨ad, vs, Fk, ha, hvl, hcell, hv, _⟩ := c4.elem PSort.row_len (by decide) (List.getElem?_eq_getElem hlt)
              refine ⟨by omega, by omega, ad, ha, vs, hvl, fun j v hj => hg07.cell (by simpa using hcell j v hj), ?_⟩
              have hmt : ((or.take (0 + 1)).map (mapS ch)).flatMap PSort.row = ((or.take 0).map (mapS ch)).flatMap PSort.row ++ (mapS ch or[0]).row := by rw [List.take_add_one, List.getElem?_eq_getElem hlt, List.map_append, List.flatMap_append]; simp only [Option.toList_some, List.map_cons, List.map_nil, List.flatMap_cons, List.flatMap_nil, List.append_nil]
              have hx1 := h3 _ (List.getElem_mem hlt)
              obtain ⟨e, he⟩ : ∃ e, or[0] = e := ⟨_, rfl⟩
              rw [he] at hx1 hv hmt
              obtain ⟨e0, dsc⟩ := e
              obtain ⟨us0, rfl, hul, hv⟩ := PSort.vals hv
              have hv' := hv
              have hx1 := hx1 _ _ rfl
              obtain ⟨kd, op, nt, vl, up, ap, ks, ss⟩ := e0
              obtain ⟨x, y, H1, H2, rfl, _, q1, q2, rfl⟩ := PExpr.vals hv'
              obtain ⟨ax, px, rfl, _⟩ := q1.slice
              obtain ⟨ay, py, rfl, _⟩ := q2.slice
              simp only [vcs, tbl, crs, List.map, reduceIte, Nat.reduceLT, Nat.reduceLeDiff, Nat.reduceEqDiff, Nat.reduceAdd, Nat.reduceMul, Nat.reduceSub, List.all_cons, List.all_nil, Bool.and_true, Bool.and_self, ne_eq, reduceCtorEq, not_false_eq_true, and_self, h45]
              refine vcDrawn.intro (.take 0 (.take 1 (.take 2 (.take 3 (.take 4 (.take 6 (.take 7 (.br 5 (.take 8 (.br 9 (.br 10 (.take 11 (.br 12 .done .nobr)) .nobr) .nobr)) .nobr)))))))) (by kernel_rfl) ?_
              simp only [vcs, tbl, crs, List.map, reduceIte, Nat.reduceLT, Nat.reduceLeDiff, Nat.reduceEqDiff, Nat.reduceAdd, Nat.reduceMul, Nat.reduceSub, List.all_cons, List.all_nil, Bool.and_true, Bool.and_self, ne_eq, reduceCtorEq, not_false_eq_true, and_self, h45]
              refine (hx1 _ _ _ (hv.grow hg07)).mono ?_
              rintro r m9 ⟨hg9, us, F9, rfl, hvr, hf9, ho9⟩
              rw [mapS] at hmt
              generalize hce : ch (.mk kd op nt vl up ap ks ss) = e' at hvr hmt
              have hvr' := hvr
              obtain ⟨kd', op', nt', vl', up', ap', ks', ss'⟩ := e'
              obtain ⟨x', y', H1', H2', rfl, _, q1', q2', rfl⟩ := PExpr.vals hvr'
              obtain ⟨ax', px', rfl, _⟩ := q1'.slice
              obtain ⟨ay', py', rfl, _⟩ := q2'.slice
              have hsr := PSort.mk_vals (d := dsc) hvr
              refine ⟨hg9, ?_⟩
              simp only [List.cons_append, List.nil_append] at hsr
              simp only [vcs, tbl, crs, List.map, reduceIte, Nat.reduceLT, Nat.reduceLeDiff, Nat.reduceEqDiff, Nat.reduceAdd, Nat.reduceMul, Nat.reduceSub, List.all_cons, List.all_nil, Bool.and_true, Bool.and_self, ne_eq, reduceCtorEq, not_false_eq_true, and_self, h45, range1, rep1, Nat.zero_mul, Nat.zero_add, Nat.le_refl, Nat.mul_one, hdl2]
              refine ⟨hsr.oneCell, by omega, fun h => h.elim, fun _ cap3 hc3 hc4 => ?_⟩
              rw [wrap_id (by omega) (by omega)]
              refine ⟨_, Sub.at 5 rfl (Sub.at 59 rfl (Sub.at 4 rfl (Sub.at 2 rfl (Sub.nil _)))), ⟨0 + 1, dn2 ++ _, G2 ++ (H1' ++ H2'), by simp, by omega, ct7.grow hg9, cn7.grow hg9, hdn7.grow hg9, cw7.grow hg9, ?_, ?_, .inr ⟨by omega, cap3, by omega, hc4, by simp only [hdo0, List.nil_append]; rfl⟩⟩, by omega⟩
              · rw [hmt]; exact (hdo7.grow hg9).join hsr
              · rw [← List.append_assoc]; exact no7.step hg9 hf9 ho9
            · have : or = [] := List.eq_nil_of_length_eq_zero (by omega)
              subst this
              obtain ⟨rfl, rfl⟩ := valsF_nil (show ValsF m7 [] dn2 G2 from hdo7)
              refine (mapPExprs _ g ch h4 s9 _ _ _ (c5.grow hg07)).mono ?_
              rintro r m8 ⟨hg8, Fi, ci, hfi, hoi⟩
              obtain ⟨ai1, pi1, rfl, _⟩ := ci.slice
              have no8 := no7.step hg8 hfi hoi
              have ct8 := ct7.grow hg8
              have cn8 := cn7.grow hg8
              have hdn8 := hdn7.grow hg8
              have cw8 := cw7.grow hg8
              have hdo8 := hdo7.grow hg8
              simp only [vcs, tbl, crs, List.map, reduceIte, Nat.reduceLT, Nat.reduceLeDiff, Nat.reduceEqDiff, Nat.reduceAdd, Nat.reduceMul, Nat.reduceSub, List.all_cons, List.all_nil, Bool.and_true, Bool.and_self, ne_eq, reduceCtorEq, not_false_eq_true, and_self, h45]
              subst hon0
              obtain ⟨rfl, rfl⟩ := valsF_nil (show ValsF m8 [] dn G from hdn8)
              have no9 : NewOwn m _ (Ft ++ (([]) ++ (Fw ++ (([]) ++ (Fi ++ Fn))))) := no8.perm (List.perm_iff_count.2 fun x => by simp only [List.count_cons, List.count_append, List.count_nil]; omega)
              refine ⟨no9.grow, _, _, rfl, ?_, no9.fresh, no9.own⟩
              exact Plan.mk_valsK (by simp) (List.length_map _) (by simp) (List.length_map _) ct8 (CellF.nilS _) cw8 (CellF.nilS _) ci cn8
          · simp only [vcs, tbl, crs, List.map, reduceIte, Nat.reduceLT, Nat.reduceLeDiff, Nat.reduceEqDiff, Nat.reduceAdd, Nat.reduceMul, Nat.reduceSub, List.all_cons, List.all_nil, Bool.and_true, Bool.and_self, ne_eq, reduceCtorEq, not_false_eq_true, and_self] at h45
            simp only [vcs, tbl, crs, List.map, reduceIte, Nat.reduceLT, Nat.reduceLeDiff, Nat.reduceEqDiff, Nat.reduceAdd, Nat.reduceMul, Nat.reduceSub, List.all_cons, List.all_nil, Bool.and_true, Bool.and_self, ne_eq, reduceCtorEq, not_false_eq_true, and_self, h45]
            refine ⟨fun hlt => ?_, fun hge => ?_⟩
            · skip
              have hlt : k2 < or.length := by omega
              obtain ⟨ad, vs, Fk, ha, hvl, hcell, hv, _⟩ := c4.elem PSort.row_len (by decide) (List.getElem?_eq_getElem hlt)
              refine ⟨by omega, by omega, ad, ha, vs, hvl, fun j v hj => hg07.cell (by simpa using hcell j v hj), ?_⟩
              have hmt : ((or.take (k2 + 1)).map (mapS ch)).flatMap PSort.row = ((or.take k2).map (mapS ch)).flatMap PSort.row ++ (mapS ch or[k2]).row := by rw [List.take_add_one, List.getElem?_eq_getElem hlt, List.map_append, List.flatMap_append]; simp only [Option.toList_some, List.map_cons, List.map_nil, List.flatMap_cons, List.flatMap_nil, List.append_nil]
              have hx1 := h3 _ (List.getElem_mem hlt)
              obtain ⟨e, he⟩ : ∃ e, or[k2] = e := ⟨_, rfl⟩
              rw [he] at hx1 hv hmt
              obtain ⟨e0, dsc⟩ := e
              obtain ⟨us0, rfl, hul, hv⟩ := PSort.vals hv
              have hv' := hv
              have hx1 := hx1 _ _ rfl
              obtain ⟨kd, op, nt, vl, up, ap, ks, ss⟩ := e0
              obtain ⟨x, y, H1, H2, rfl, _, q1, q2, rfl⟩ := PExpr.vals hv'
              obtain ⟨ax, px, rfl, _⟩ := q1.slice
              obtain ⟨ay, py, rfl, _⟩ := q2.slice
              simp only [vcs, tbl, crs, List.map, reduceIte, Nat.reduceLT, Nat.reduceLeDiff, Nat.reduceEqDiff, Nat.reduceAdd, Nat.reduceMul, Nat.reduceSub, List.all_cons, List.all_nil, Bool.and_true, Bool.and_self, ne_eq, reduceCtorEq, not_false_eq_true, and_self, h45]
              refine vcDrawn.intro (.take 0 (.take 1 (.take 2 (.take 3 (.take 4 (.take 6 (.take 7 (.br 5 (.take 8 (.br 9 (.br 10 (.take 11 (.br 12 .done .nobr)) .nobr) .nobr)) .nobr)))))))) (by kernel_rfl) ?_
              simp only [vcs, tbl, crs, List.map, reduceIte, Nat.reduceLT, Nat.reduceLeDiff, Nat.reduceEqDiff, Nat.reduceAdd, Nat.reduceMul, Nat.reduceSub, List.all_cons, List.all_nil, Bool.and_true, Bool.and_self, ne_eq, reduceCtorEq, not_false_eq_true, and_self, h45]
              refine (hx1 _ _ _ (hv.grow hg07)).mono ?_
              rintro r m9 ⟨hg9, us, F9, rfl, hvr, hf9, ho9⟩
              rw [mapS] at hmt
              generalize hce : ch (.mk kd op nt vl up ap ks ss) = e' at hvr hmt
              have hvr' := hvr
              obtain ⟨kd', op', nt', vl', up', ap', ks', ss'⟩ := e'
              obtain ⟨x', y', H1', H2', rfl, _, q1', q2', rfl⟩ := PExpr.vals hvr'
              obtain ⟨ax', px', rfl, _⟩ := q1'.slice
              obtain ⟨ay', py', rfl, _⟩ := q2'.slice
              have hsr := PSort.mk_vals (d := dsc) hvr
              refine ⟨hg9, ?_⟩
              simp only [List.cons_append, List.nil_append] at hsr
              simp only [vcs, tbl, crs, List.map, reduceIte, Nat.reduceLT, Nat.reduceLeDiff, Nat.reduceEqDiff, Nat.reduceAdd, Nat.reduceMul, Nat.reduceSub, List.all_cons, List.all_nil, Bool.and_true, Bool.and_self, ne_eq, reduceCtorEq, not_false_eq_true, and_self, h45, range1, rep1, Nat.zero_mul, Nat.zero_add, Nat.le_refl, Nat.mul_one, hdl2]
              refine ⟨hsr.oneCell, by omega, by omega, fun cap3 hc3 hc4 => ?_⟩
              rw [wrap_id (by omega) (by omega)]
              refine ⟨_, Sub.at 5 rfl (Sub.at 59 rfl (Sub.at 4 rfl (Sub.at 2 rfl (Sub.nil _)))), ⟨k2 + 1, dn2 ++ _, G2 ++ (H1' ++ H2'), by simp, by omega, ct7.grow hg9, cn7.grow hg9, hdn7.grow hg9, cw7.grow hg9, ?_, ?_, .inr ⟨by omega, cap3, by omega, hc4, by rw [List.take_of_length_le (l := dn2) (by omega)]⟩⟩, by omega⟩
              · rw [hmt]; exact (hdo7.grow hg9).join hsr
              · rw [← List.append_assoc]; exact no7.step hg9 hf9 ho9
            · have : k2 = or.length := by omega
              subst this
              rw [List.take_length] at hdo7
              refine (mapPExprs _ g ch h4 s9 _ _ _ (c5.grow hg07)).mono ?_
              rintro r m8 ⟨hg8, Fi, ci, hfi, hoi⟩
              obtain ⟨ai1, pi1, rfl, _⟩ := ci.slice
              have no8 := no7.step hg8 hfi hoi
              have ct8 := ct7.grow hg8
              have cn8 := cn7.grow hg8
              have hdn8 := hdn7.grow hg8
              have cw8 := cw7.grow hg8
              have hdo8 := hdo7.grow hg8
              simp only [vcs, tbl, crs, List.map, reduceIte, Nat.reduceLT, Nat.reduceLeDiff, Nat.reduceEqDiff, Nat.reduceAdd, Nat.reduceMul, Nat.reduceSub, List.all_cons, List.all_nil, Bool.and_true, Bool.and_self, ne_eq, reduceCtorEq, not_false_eq_true, and_self, h45]
              subst hon0
              obtain ⟨rfl, rfl⟩ := valsF_nil (show ValsF m8 [] dn G from hdn8)
              intro b2 n2 hp2
              have cod := CellF.of_pubN hp2 hdo8 (fun e => by have := congrArg List.length e; rw [flatMap_len PSort.row_len, List.length_map] at this; have h0 : ([] : List D).length = 0 := rfl; omega) hd1 hd2
              have ct8 := ct8.grow hp2.grow
              have cn8 := cn8.grow hp2.grow
              have hdn8 := hdn8.grow hp2.grow
              have cw8 := cw8.grow hp2.grow
              have hdo8 := hdo8.grow hp2.grow
              have ci := ci.grow hp2.grow
              have no8 := no8.pub hp2
              have no9 : NewOwn m _ (Ft ++ (([]) ++ (Fw ++ ((b2 :: G2) ++ (Fi ++ Fn))))) := no8.perm (List.perm_iff_count.2 fun x => by simp only [List.count_cons, List.count_append, List.count_nil]; omega)
              refine ⟨no9.grow, _, _, rfl, ?_, no9.fresh, no9.own⟩
              exact Plan.mk_valsK (by simp) (List.length_map _) (List.length_map _) (List.length_map _) ct8 (CellF.nilS _) cw8 cod ci cn8
    · simp only [vcs, tbl, crs, List.map, reduceIte, Nat.reduceLT, Nat.reduceLeDiff, Nat.reduceEqDiff, Nat.reduceAdd, Nat.reduceMul, Nat.reduceSub, List.all_cons, List.all_nil, Bool.and_true, Bool.and_self, ne_eq, reduceCtorEq, not_false_eq_true, and_self] at h24
      simp only [vcs, tbl, crs, List.map, reduceIte, Nat.reduceLT, Nat.reduceLeDiff, Nat.reduceEqDiff, Nat.reduceAdd, Nat.reduceMul, Nat.reduceSub, List.all_cons, List.all_nil, Bool.and_true, Bool.and_self, ne_eq, reduceCtorEq, not_false_eq_true, and_self, h24]
      refine ⟨fun hlt => ?_, fun hge => ?_⟩
      · skip
        have hlt : k < on.length := by omega
        obtain ⟨ad, vs, Fk, ha, hvl, hcell, hv, _⟩ := c2.elem erow_len (by decide) (List.getElem?_eq_getElem hlt)
        obtain ⟨u, hu⟩ : ∃ u, vs[0]? = some u := ⟨vs[0]'(by omega), List.getElem?_eq_getElem _⟩
        have hcu := hg03.cell (hcell 0 u hu)
        rw [add0] at hcu
        have hvu := (ValsF.one hv hu).grow hg03
        refine ⟨by omega, by omega, ad, ha, u, hcu, ?_⟩
        obtain ⟨au, pu, rfl, _⟩ := hvu.slice
        refine vcDrawn.intro (.take 0 (.take 1 (.take 2 (.take 3 (.br 4 (.br 5 (.br 6 (.take 7 (.br 8 .done .nobr)) .nobr) .nobr) .nobr))))) (by kernel_rfl) ?_
        simp only [vcs, tbl, crs, List.map, reduceIte, Nat.reduceLT, Nat.reduceLeDiff, Nat.reduceEqDiff, Nat.reduceAdd, Nat.reduceMul, Nat.reduceSub, List.all_cons, List.all_nil, Bool.and_true, Bool.and_self, ne_eq, reduceCtorEq, not_false_eq_true, and_self, h24]
        refine (mapPExprs _ g ch (h1 _ (List.getElem_mem hlt)) (s3 _ (List.getElem_mem hlt)) _ _ _ hvu).mono ?_
        rintro r m4 ⟨hg4, Fr, cr, hfr, hor⟩
        obtain ⟨ar1, pr1, rfl, _⟩ := cr.slice
        refine ⟨hg4, ?_⟩
        simp only [vcs, tbl, crs, List.map, reduceIte, Nat.reduceLT, Nat.reduceLeDiff, Nat.reduceEqDiff, Nat.reduceAdd, Nat.reduceMul, Nat.reduceSub, List.all_cons, List.all_nil, Bool.and_true, Bool.and_self, ne_eq, reduceCtorEq, not_false_eq_true, and_self, h24, range1, rep1, Nat.zero_mul, Nat.zero_add, Nat.le_refl, Nat.mul_one, hdl]
        refine ⟨cr.single'.oneCell, by omega, by omega, fun cap2 hc3 hc4 => ?_⟩
        have hmt : ((on.take (k + 1)).map fun l => l.map ch).flatMap erow = ((on.take k).map fun l => l.map ch).flatMap erow ++ erow (on[k].map ch) := by rw [List.take_add_one, List.getElem?_eq_getElem hlt, List.map_append, List.flatMap_append]; simp only [Option.toList_some, List.map_cons, List.map_nil, List.flatMap_cons, List.flatMap_nil, List.append_nil]
        have hcr : ValsF m4 (erow (on[k].map ch)) [.slice ar1 on[k].length pr1] Fr := by
          rw [erow, List.length_map]; exact ValsF.single cr
        rw [wrap_id (by omega) (by omega)]
        refine ⟨_, Sub.at 5 rfl (Sub.at 34 rfl (Sub.at 4 rfl (Sub.at 2 rfl (Sub.nil _)))), ⟨k + 1, dn ++ [.slice ar1 on[k].length pr1], G ++ Fr, by simp, by omega, ct3.grow hg4, cn3.grow hg4, ?_, ?_, .inr ⟨by omega, cap2, by omega, hc4, by simp [List.take_of_length_le (Nat.le_of_eq hdl)]⟩⟩, by omega⟩
        · rw [hmt]; exact (hdn.grow hg4).join hcr
        · rw [← List.append_assoc]; exact no3.step hg4 hfr hor
      · have : k = on.length := by omega
        subst this
        rw [List.take_length] at hdn
        refine (mapPExprs _ g ch h2 s5 _ _ _ (c3.grow hg03)).mono ?_
        rintro r m5 ⟨hg5, Fw, cw, hfw, how⟩
        obtain ⟨aw1, pw1, rfl, _⟩ := cw.slice
        have no5 := no3.step hg5 hfw how
        simp only [vcs, tbl, crs, List.map, reduceIte, Nat.reduceLT, Nat.reduceLeDiff, Nat.reduceEqDiff, Nat.reduceAdd, Nat.reduceMul, Nat.reduceSub, List.all_cons, List.all_nil, Bool.and_true, Bool.and_self, ne_eq, reduceCtorEq, not_false_eq_true, and_self, h24]
        refine vcLoop.intro (fun f L m1 => ∃ (k2 : Nat) (dn2 : List Value) (G2 : List Nat), f 45 = .c (.v (.int .i64 k2)) ∧ k2 ≤ or.length ∧ CellF m1 (.sl t.length (t.flatMap irow)) (.slice at1 t.length pt1) Ft ∧ CellF m1 (.sl nm.length (nm.flatMap srow)) (.slice an1 nm.length pn1) Fn ∧
           ValsF m1 ((on.map fun l => l.map ch).flatMap erow) dn G ∧ CellF m1 (.sl wh.length ((wh.map ch).flatMap PExpr.row)) (.slice aw1 wh.length pw1) Fw ∧ ValsF m1 (((or.take k2).map (mapS ch)).flatMap PSort.row) dn2 G2 ∧
           NewOwn m m1 ((((Ft ++ Fn) ++ G) ++ Fw) ++ G2) ∧ ((k2 = 0 ∧ L = [(5, .str 74 [.v (.slice at1 t.length pt1), .bs 34 on.length, .v (.slice aw1 wh.length pw1), .v (.slice none 0 0), .v (.slice none 0 0), .v (.slice an1 nm.length pn1), .v (.bool ds), .v (.int .i64 li)]), (34, .arr 53 dn cap1), (4, .str 74 [.v (.slice none 0 0), .v (.slice none 0 0), .v (.slice none 0 0), .v (.slice none 0 0), .v (.slice none 0 0), .v (.slice none 0 0), .v (.bool false), .v (.int .i64 0)]), (2, .str 74 [.v (.slice at_ t.length pt), .v (.slice ao on.length po), .v (.slice aw wh.length pw), .v (.slice ar or.length pr), .v (.slice ai it.length pi), .v (.slice an nm.length pn), .v (.bool ds), .v (.int .i64 li)])]) ∨ (0 < k2 ∧ ∃ cap2, k2 ≤ cap2 ∧ cap2 ≤ maxLen ∧ L = [(5, .str 74 [.v (.slice at1 t.length pt1), .bs 34 on.length, .v (.slice aw1 wh.length pw1), .bs 59 k2, .v (.slice none 0 0), .v (.slice an1 nm.length pn1), .v (.bool ds), .v (.int .i64 li)]), (59, .arr 122 dn2 cap2), (34, .arr 53 dn cap1), (4, .str 74 [.v (.slice none 0 0), .v (.slice none 0 0), .v (.slice none 0 0), .v (.slice none 0 0), .v (.slice none 0 0), .v (.slice none 0 0), .v (.bool false), .v (.int .i64 0)]), (2, .str 74 [.v (.slice at_ t.length pt), .v (.slice ao on.length po), .v (.slice aw wh.length pw), .v (.slice ar or.length pr), .v (.slice ai it.length pi), .v (.slice an nm.length pn), .v (.bool ds), .v (.int .i64 li)])])))
          (fun f _ _ => (or.length - ixS (f 45)).toNat) ⟨[(5, .str 74 [.v (.slice at1 t.length pt1), .bs 34 on.length, .v (.slice aw1 wh.length pw1), .v (.slice none 0 0), .v (.slice none 0 0), .v (.slice an1 nm.length pn1), .v (.bool ds), .v (.int .i64 li)]), (34, .arr 53 dn cap1), (4, .str 74 [.v (.slice none 0 0), .v (.slice none 0 0), .v (.slice none 0 0), .v (.slice none 0 0), .v (.slice none 0 0), .v (.slice none 0 0), .v (.bool false), .v (.int .i64 0)]), (2, .str 74 [.v (.slice at_ t.length pt), .v (.slice ao on.length po), .v (.slice aw wh.length pw), .v (.slice ar or.length pr), .v (.slice ai it.length pi), .v (.slice an nm.length pn), .v (.bool ds), .v (.int .i64 li)])], Sub.at 5 rfl (Sub.at 34 rfl (Sub.at 4 rfl (Sub.at 2 rfl (Sub.nil _)))), 0, [], [], ?_⟩ ?_
        · simp only [vcs, tbl, crs, List.map, reduceIte, Nat.reduceLT, Nat.reduceLeDiff, Nat.reduceEqDiff, Nat.reduceAdd, Nat.reduceMul, Nat.reduceSub, List.all_cons, List.all_nil, Bool.and_true, Bool.and_self, ne_eq, reduceCtorEq, not_false_eq_true, and_self, h24]
          exact ⟨rfl, Nat.zero_le _, ct3.grow hg5, cn3.grow hg5, hdn.grow hg5, cw, rfl, by simpa using no5, by first | trivial | exact .inl trivial | exact .inl ⟨rfl, rfl⟩⟩
        · rintro g2 L2 m7 ⟨k2, dn2, G2, h45, hk2, ct7, cn7, hdn7, cw7, hdo7, no7, hL2⟩
          have hg07 := no7.grow
          have hdl2 : dn2.length = k2 * 11 := by rw [hdo7.length, flatMap_len PSort.row_len, List.length_map, List.length_take]; congr 1; omega
          rcases hL2 with ⟨rfl, rfl⟩ | ⟨hk20, cap2, hd1, hd2, rfl⟩
          · have hdo0 : dn2 = [] := List.eq_nil_of_length_eq_zero (by omega)
            simp only [vcs, tbl, crs, List.map, reduceIte, Nat.reduceLT, Nat.reduceLeDiff, Nat.reduceEqDiff, Nat.reduceAdd, Nat.reduceMul, Nat.reduceSub, List.all_cons, List.all_nil, Bool.and_true, Bool.and_self, ne_eq, reduceCtorEq, not_false_eq_true, and_self] at h45
            simp only [vcs, tbl, crs, List.map, reduceIte, Nat.reduceLT, Nat.reduceLeDiff, Nat.reduceEqDiff, Nat.reduceAdd, Nat.reduceMul, Nat.reduceSub, List.all_cons, List.all_nil, Bool.and_true, Bool.and_self, ne_eq, reduceCtorEq, not_false_eq_true, and_self, h45]
            refine ⟨fun hlt => ?_, fun hge => ?_⟩
            · skip
              have hlt : 0 < or.length := by omega
              obtain ⟨ad, vs, Fk, ha, hvl, hcell, hv, _⟩ := c4.elem PSort.row_len (by decide) (List.getElem?_eq_getElem hlt)
              refine ⟨by omega, by omega, ad, ha, vs, hvl, fun j v hj => hg07.cell (by simpa using hcell j v hj), ?_⟩
              have hmt : ((or.take (0 + 1)).map (mapS ch)).flatMap PSort.row = ((or.take 0).map (mapS ch)).flatMap PSort.row ++ (mapS ch or[0]).row := by rw [List.take_add_one, List.getElem?_eq_getElem hlt, List.map_append, List.flatMap_append]; simp only [Option.toList_some, List.map_cons, List.map_nil, List.flatMap_cons, List.flatMap_nil, List.append_nil]
              have hx1 := h3 _ (List.getElem_mem hlt)
              obtain ⟨e, he⟩ : ∃ e, or[0] = e := ⟨_, rfl⟩
              rw [he] at hx1 hv hmt
              obtain ⟨e0, dsc⟩ := e
              obtain ⟨us0, rfl, hul, hv⟩ := PSort.vals hv
              have hv' := hv
              have hx1 := hx1 _ _ rfl
              obtain ⟨kd, op, nt, vl, up, ap, ks, ss⟩ := e0
              obtain ⟨x, y, H1, H2, rfl, _, q1, q2, rfl⟩ := PExpr.vals hv'
              obtain ⟨ax, px, rfl, _⟩ := q1.slice
              obtain ⟨ay, py, rfl, _⟩ := q2.slice
              simp only [vcs, tbl, crs, List.map, reduceIte, Nat.reduceLT, Nat.reduceLeDiff, Nat.reduceEqDiff, Nat.reduceAdd, Nat.reduceMul, Nat.reduceSub, List.all_cons, List.all_nil, Bool.and_true, Bool.and_self, ne_eq, reduceCtorEq, not_false_eq_true, and_self, h45]
              refine vcDrawn.intro (.take 0 (.take 1 (.take 2 (.take 3 (.take 4 (.take 6 (.take 7 (.br 5 (.take 8 (.br 9 (.br 10 (.take 11 (.br 12 .done .nobr)) .nobr) .nobr)) .nobr)))))))) (by kernel_rfl) ?_
              simp only [vcs, tbl, crs, List.map, reduceIte, Nat.reduceLT, Nat.reduceLeDiff, Nat.reduceEqDiff, Nat.reduceAdd, Nat.reduceMul, Nat.reduceSub, List.all_cons, List.all_nil, Bool.and_true, Bool.and_self, ne_eq, reduceCtorEq, not_false_eq_true, and_self, h45]
              refine (hx1 _ _ _ (hv.grow hg07)).mono ?_
              rintro r m9 ⟨hg9, us, F9, rfl, hvr, hf9, ho9⟩
              rw [mapS] at hmt
              generalize hce : ch (.mk kd op nt vl up ap ks ss) = e' at hvr hmt
              have hvr' := hvr
              obtain ⟨kd', op', nt', vl', up', ap', ks', ss'⟩ := e'
              obtain ⟨x', y', H1', H2', rfl, _, q1', q2', rfl⟩ := PExpr.vals hvr'
              obtain ⟨ax', px', rfl, _⟩ := q1'.slice
              obtain ⟨ay', py', rfl, _⟩ := q2'.slice
              have hsr := PSort.mk_vals (d := dsc) hvr
              refine ⟨hg9, ?_⟩
              simp only [List.cons_append, List.nil_append] at hsr
              simp only [vcs, tbl, crs, List.map, reduceIte, Nat.reduceLT, Nat.reduceLeDiff, Nat.reduceEqDiff, Nat.reduceAdd, Nat.reduceMul, Nat.reduceSub, List.all_cons, List.all_nil, Bool.and_true, Bool.and_self, ne_eq, reduceCtorEq, not_false_eq_true, and_self, h45, range1, rep1, Nat.zero_mul, Nat.zero_add, Nat.le_refl, Nat.mul_one, hdl2]
              refine ⟨hsr.oneCell, by omega, fun h => h.elim, fun _ cap3 hc3 hc4 => ?_⟩
              rw [wrap_id (by omega) (by omega)]
              refine ⟨_, Sub.at 5 rfl (Sub.at 59 rfl (Sub.at 34 rfl (Sub.at 4 rfl (Sub.at 2 rfl (Sub.nil _))))), ⟨0 + 1, dn2 ++ _, G2 ++ (H1' ++ H2'), by simp, by omega, ct7.grow hg9, cn7.grow hg9, hdn7.grow hg9, cw7.grow hg9, ?_, ?_, .inr ⟨by omega, cap3, by omega, hc4, by simp only [hdo0, List.nil_append]; rfl⟩⟩, by omega⟩
              · rw [hmt]; exact (hdo7.grow hg9).join hsr
              · rw [← List.append_assoc]; exact no7.step hg9 hf9 ho9
            · have : or = [] := List.eq_nil_of_length_eq_zero (by omega)
              subst this
              obtain ⟨rfl, rfl⟩ := valsF_nil (show ValsF m7 [] dn2 G2 from hdo7)
              refine (mapPExprs _ g ch h4 s9 _ _ _ (c5.grow hg07)).mono ?_
              rintro r m8 ⟨hg8, Fi, ci, hfi, hoi⟩
              obtain ⟨ai1, pi1, rfl, _⟩ := ci.slice
              have no8 := no7.step hg8 hfi hoi
              have ct8 := ct7.grow hg8
              have cn8 := cn7.grow hg8
              have hdn8 := hdn7.grow hg8
              have cw8 := cw7.grow hg8
              have hdo8 := hdo7.grow hg8
              simp only [vcs, tbl, crs, List.map, reduceIte, Nat.reduceLT, Nat.reduceLeDiff, Nat.reduceEqDiff, Nat.reduceAdd, Nat.reduceMul, Nat.reduceSub, List.all_cons, List.all_nil, Bool.and_true, Bool.and_self, ne_eq, reduceCtorEq, not_false_eq_true, and_self, h45]
              intro b1 n1 hp1
              have con := CellF.of_pubN hp1 hdn8 (fun e => by have := congrArg List.length e; rw [flatMap_len erow_len, List.length_map] at this; have h0 : ([] : List D).length = 0 := rfl; omega) hc1 hc2
              have ct8 := ct8.grow hp1.grow
              have cn8 := cn8.grow hp1.grow
              have hdn8 := hdn8.grow hp1.grow
              have cw8 := cw8.grow hp1.grow
              have hdo8 := hdo8.grow hp1.grow
              have ci := ci.grow hp1.grow
              have no8 := no8.pub hp1
              have no9 : NewOwn m _ (Ft ++ ((b1 :: G) ++ (Fw ++ (([]) ++ (Fi ++ Fn))))) := no8.perm (List.perm_iff_count.2 fun x => by simp only [List.count_cons, List.count_append, List.count_nil]; omega)
              refine ⟨no9.grow, _, _, rfl, ?_, no9.fresh, no9.own⟩
              exact Plan.mk_valsK (List.length_map _) (List.length_map _) (by simp) (List.length_map _) ct8 con cw8 (CellF.nilS _) ci cn8
          · simp only [vcs, tbl, crs, List.map, reduceIte, Nat.reduceLT, Nat.reduceLeDiff, Nat.reduceEqDiff, Nat.reduceAdd, Nat.reduceMul, Nat.reduceSub, List.all_cons, List.all_nil, Bool.and_true, Bool.and_self, ne_eq, reduceCtorEq, not_false_eq_true, and_self] at h45
            simp only [vcs, tbl, crs, List.map, reduceIte, Nat.reduceLT, Nat.reduceLeDiff, Nat.reduceEqDiff, Nat.reduceAdd, Nat.reduceMul, Nat.reduceSub, List.all_cons, List.all_nil, Bool.and_true, Bool.and_self, ne_eq, reduceCtorEq, not_false_eq_true, and_self, h45]
            refine ⟨fun hlt => ?_, fun hge => ?_⟩
            · skip
              have hlt : k2 < or.length := by omega
              obtain ⟨ad, vs, Fk, ha, hvl, hcell, hv, _⟩ := c4.elem PSort.row_len (by decide) (List.getElem?_eq_getElem hlt)
              refine ⟨by omega, by omega, ad, ha, vs, hvl, fun j v hj => hg07.cell (by simpa using hcell j v hj), ?_⟩
              have hmt : ((or.take (k2 + 1)).map (mapS ch)).flatMap PSort.row = ((or.take k2).map (mapS ch)).flatMap PSort.row ++ (mapS ch or[k2]).row := by rw [List.take_add_one, List.getElem?_eq_getElem hlt, List.map_append, List.flatMap_append]; simp only [Option.toList_some, List.map_cons, List.map_nil, List.flatMap_cons, List.flatMap_nil, List.append_nil]
              have hx1 := h3 _ (List.getElem_mem hlt)
              obtain ⟨e, he⟩ : ∃ e, or[k2] = e := ⟨_, rfl⟩
              rw [he] at hx1 hv hmt
              obtain ⟨e0, dsc⟩ := e
              obtain ⟨us0, rfl, hul, hv⟩ := PSort.vals hv
              have hv' := hv
              have hx1 := hx1 _ _ rfl
              obtain ⟨kd, op, nt, vl, up, ap, ks, ss⟩ := e0
              obtain ⟨x, y, H1, H2, rfl, _, q1, q2, rfl⟩ := PExpr.vals hv'
              obtain ⟨ax, px, rfl, _⟩ := q1.slice
              obtain ⟨ay, py, rfl, _⟩ := q2.slice
              simp only [vcs, tbl, crs, List.map, reduceIte, Nat.reduceLT, Nat.reduceLeDiff, Nat.reduceEqDiff, Nat.reduceAdd, Nat.reduceMul, Nat.reduceSub, List.all_cons, List.all_nil, Bool.and_true, Bool.and_self, ne_eq, reduceCtorEq, not_false_eq_true, and_self, h45]
              refine vcDrawn.intro (.take 0 (.take 1 (.take 2 (.take 3 (.take 4 (.take 6 (.take 7 (.br 5 (.take 8 (.br 9 (.br 10 (.take 11 (.br 12 .done .nobr)) .nobr) .nobr)) .nobr)))))))) (by kernel_rfl) ?_
              simp only [vcs, tbl, crs, List.map, reduceIte, Nat.reduceLT, Nat.reduceLeDiff, Nat.reduceEqDiff, Nat.reduceAdd, Nat.reduceMul, Nat.reduceSub, List.all_cons, List.all_nil, Bool.and_true, Bool.and_self, ne_eq, reduceCtorEq, not_false_eq_true, and_self, h45]
              refine (hx1 _ _ _ (hv.grow hg07)).mono ?_
              rintro r m9 ⟨hg9, us, F9, rfl, hvr, hf9, ho9⟩
              rw [mapS] at hmt
              generalize hce : ch (.mk kd op nt vl up ap ks ss) = e' at hvr hmt
              have hvr' := hvr
              obtain ⟨kd', op', nt', vl', up', ap', ks', ss'⟩ := e'
              obtain ⟨x', y', H1', H2', rfl, _, q1', q2', rfl⟩ := PExpr.vals hvr'
              obtain ⟨ax', px', rfl, _⟩ := q1'.slice
              obtain ⟨ay', py', rfl, _⟩ := q2'.slice
              have hsr := PSort.mk_vals (d := dsc) hvr
              refine ⟨hg9, ?_⟩
              simp only [List.cons_append, List.nil_append] at hsr
              simp only [vcs, tbl, crs, List.map, reduceIte, Nat.reduceLT, Nat.reduceLeDiff, Nat.reduceEqDiff, Nat.reduceAdd, Nat.reduceMul, Nat.reduceSub, List.all_cons, List.all_nil, Bool.and_true, Bool.and_self, ne_eq, reduceCtorEq, not_false_eq_true, and_self, h45, range1, rep1, Nat.zero_mul, Nat.zero_add, Nat.le_refl, Nat.mul_one, hdl2]
              refine ⟨hsr.oneCell, by omega, by omega, fun cap3 hc3 hc4 => ?_⟩
              rw [wrap_id (by omega) (by omega)]
              refine ⟨_, Sub.at 5 rfl (Sub.at 59 rfl (Sub.at 34 rfl (Sub.at 4 rfl (Sub.at 2 rfl (Sub.nil _))))), ⟨k2 + 1, dn2 ++ _, G2 ++ (H1' ++ H2'), by simp, by omega, ct7.grow hg9, cn7.grow hg9, hdn7.grow hg9, cw7.grow hg9, ?_, ?_, .inr ⟨by omega, cap3, by omega, hc4, by rw [List.take_of_length_le (l := dn2) (by omega)]⟩⟩, by omega⟩
              · rw [hmt]; exact (hdo7.grow hg9).join hsr
              · rw [← List.append_assoc]; exact no7.step hg9 hf9 ho9
            · have : k2 = or.length := by omega
              subst this
              rw [List.take_length] at hdo7
              refine (mapPExprs _ g ch h4 s9 _ _ _ (c5.grow hg07)).mono ?_
              rintro r m8 ⟨hg8, Fi, ci, hfi, hoi⟩
              obtain ⟨ai1, pi1, rfl, _⟩ := ci.slice
              have no8 := no7.step hg8 hfi hoi
              have ct8 := ct7.grow hg8
              have cn8 := cn7.grow hg8
              have hdn8 := hdn7.grow hg8
              have cw8 := cw7.grow hg8
              have hdo8 := hdo7.grow hg8
              simp only [vcs, tbl, crs, List.map, reduceIte, Nat.reduceLT, Nat.reduceLeDiff, Nat.reduceEqDiff, Nat.reduceAdd, Nat.reduceMul, Nat.reduceSub, List.all_cons, List.all_nil, Bool.and_true, Bool.and_self, ne_eq, reduceCtorEq, not_false_eq_true, and_self, h45]
              intro b1 n1 hp1
              have con := CellF.of_pubN hp1 hdn8 (fun e => by have := congrArg List.length e; rw [flatMap_len erow_len, List.length_map] at this; have h0 : ([] : List D).length = 0 := rfl; omega) hc1 hc2
              have ct8 := ct8.grow hp1.grow
              have cn8 := cn8.grow hp1.grow
              have hdn8 := hdn8.grow hp1.grow
              have cw8 := cw8.grow hp1.grow
              have hdo8 := hdo8.grow hp1.grow
              have ci := ci.grow hp1.grow
              have no8 := no8.pub hp1
              intro b2 n2 hp2
              have cod := CellF.of_pubN hp2 hdo8 (fun e => by have := congrArg List.length e; rw [flatMap_len PSort.row_len, List.length_map] at this; have h0 : ([] : List D).length = 0 := rfl; omega) hd1 hd2
              have con := con.grow hp2.grow
              have ct8 := ct8.grow hp2.grow
              have cn8 := cn8.grow hp2.grow
              have hdn8 := hdn8.grow hp2.grow
              have cw8 := cw8.grow hp2.grow
              have hdo8 := hdo8.grow hp2.grow
              have ci := ci.grow hp2.grow
              have no8 := no8.pub hp2
              have no9 : NewOwn m _ (Ft ++ ((b1 :: G) ++ (Fw ++ ((b2 :: G2) ++ (Fi ++ Fn))))) := no8.perm (List.perm_iff_count.2 fun x => by simp only [List.count_cons, List.count_append, List.count_nil]; omega)
              refine ⟨no9.grow, _, _, rfl, ?_, no9.fresh, no9.own⟩
              exact Plan.mk_valsK (List.length_map _) (List.length_map _) (List.length_map _) (List.length_map _) ct8 con cw8 cod ci cn8

end Go.Proofs.Ytklligemdfnimaa
set_option linter.unusedVariables false
set_option linter.unusedSimpArgs false
set_option maxRecDepth 4000
namespace Go.Proofs.Ytklligemdfnimaa
open Go Go.Vc
def PlC (g : FuncId) (ch : PExpr → PExpr) (p : Plan) : Prop := ∀ (m : World) (vs : List Value) (F : List Nat), ValsF m p.row vs F →
  FCalls Try.prog 100 #[.agg vs.toArray, .func (.func g) #[] #[]] m fun r m' => Grow m m' ∧ ∃ us F', r = .agg us.toArray ∧ ValsF m' (mapP ch p).row us F' ∧ Fresh m F' ∧ Own m' F'
def mapI (ck cs : PExpr → PExpr) : PExpr → PExpr
  | .mk k o n v u a ks ss => .mk k o n v u a (ks.map ck) (ss.map (mapP cs))
theorem PExpr.mk_valsK {m : World} {k o : Int} {n : Bool} {v : Val} {u a : Int} {ks : List PExpr} {ss : List Plan} {nk np : Nat} (e1 : ks.length = nk) (e2 : ss.length = np) {x y : Value} {F1 F2 : List Nat} (hv : v.text.size ≤ maxLen)
    (h1 : CellF m (.sl nk (ks.flatMap PExpr.row)) x F1) (h2 : CellF m (.sl np (ss.flatMap Plan.row)) y F2) :
    ValsF m (PExpr.mk k o n v u a ks ss).row [.int .i64 k, .int .i64 o, .bool n, .int .i64 v.kind, .int .i64 v.num, .string v.text, .int .i64 u, .int .i64 a, x, y] (F1 ++ F2) := by
  subst e1 e2; exact PExpr.mk_vals hv h1 h2
theorem mapInside_c (k o n v u a ks ss) (gk gs : FuncId) (ck cs : PExpr → PExpr) (hk : ∀ e ∈ ks, ChC gk ck e) (hp : ∀ p ∈ ss, PlC gs cs p) (s1 : ks.length ≤ 1048576) (s2 : ss.length ≤ 1048576)
   (m : World) (vs : List Value) (F : List Nat) (h : ValsF m (PExpr.mk k o n v u a ks ss).row vs F) :
   FCalls Try.prog 134 #[.agg vs.toArray, .func (.func gk) #[] #[], .func (.func gs) #[] #[]] m fun r m' => Grow m m' ∧ ∃ us F', r = .agg us.toArray ∧ ValsF m' (mapI ck cs (.mk k o n v u a ks ss)).row us F' ∧ Fresh m F' ∧ Own m' F' := by
  have hml : maxLen = 9223372036854775807 := rfl
  obtain ⟨x, y, F1, F2, rfl, hv, c1, c2, rfl⟩ := PExpr.vals h
  obtain ⟨ax, px, rfl, _⟩ := c1.slice
  obtain ⟨ay, py, rfl, hay, hmy, _⟩ := c2.slice
  clear h
  refine fcalls_of_vc (args := [_, _, _]) follows_mixed Try.func134 rfl (by kernel_rfl) (by simp [Try.f134]) ?_
  simp only [Try.f134, vcs, tbl, crs, List.map, reduceIte, Nat.reduceLT, Nat.reduceLeDiff, Nat.reduceEqDiff, Nat.reduceAdd, Nat.reduceMul, Nat.reduceSub, List.all_cons, List.all_nil, Bool.and_true, Bool.and_self, ne_eq, reduceCtorEq, not_false_eq_true, and_self]
  refine (mapPExprs _ gk ck hk s1 _ _ _ c1).mono ?_
  rintro r m1 ⟨hg1, Fk, cK, hfk, hok⟩
  obtain ⟨ak, pk, rfl, _⟩ := cK.slice
  simp only [vcs, tbl, crs, List.map, reduceIte, Nat.reduceLT, Nat.reduceLeDiff, Nat.reduceEqDiff, Nat.reduceAdd, Nat.reduceMul, Nat.reduceSub, List.all_cons, List.all_nil, Bool.and_true, Bool.and_self, ne_eq, reduceCtorEq, not_false_eq_true, and_self, range0, rep0, Nat.zero_mul, Nat.zero_le]
  refine vcLoop.ren 15 28 (by decide) (by decide) (fun f L m1 => ∃ (i : Nat) (dn : List Value) (G : List Nat) (cap' : Nat), f 19 = .c (.v (.int .i64 i)) ∧ f 7 = .c (.bs 28 i) ∧ i ≤ cap' ∧ cap' ≤ maxLen ∧ i ≤ ss.length ∧ 
    L = [(28, .arr 74 dn cap'), (3, .str 56 [.v (.int .i64 k), .v (.int .i64 o), .v (.bool n), .v (.int .i64 v.kind), .v (.int .i64 v.num), .v (.string v.text), .v (.int .i64 u), .v (.int .i64 a), .v (.slice ak ks.length pk), .v (.slice ay ss.length py)]), (6, .str 56 [.v (.int .i64 0), .v (.int .i64 0), .v (.bool false), .v (.int .i64 0), .v (.int .i64 0), .v (.string ByteArray.empty), .v (.int .i64 0), .v (.int .i64 0), .v (.slice none 0 0), .v (.slice none 0 0)])] ∧ CellF m1 (.sl ks.length ((ks.map ck).flatMap PExpr.row)) (.slice ak ks.length pk) Fk ∧ ValsF m1 (((ss.take i).map (mapP cs)).flatMap Plan.row) dn G ∧ NewOwn m m1 (Fk ++ G))
    (fun f _ _ => (ss.length - ixS (f 19)).toNat) ⟨[(28, .arr 74 [] 0), (3, .str 56 [.v (.int .i64 k), .v (.int .i64 o), .v (.bool n), .v (.int .i64 v.kind), .v (.int .i64 v.num), .v (.string v.text), .v (.int .i64 u), .v (.int .i64 a), .v (.slice ak ks.length pk), .v (.slice ay ss.length py)]), (6, .str 56 [.v (.int .i64 0), .v (.int .i64 0), .v (.bool false), .v (.int .i64 0), .v (.int .i64 0), .v (.string ByteArray.empty), .v (.int .i64 0), .v (.int .i64 0), .v (.slice none 0 0), .v (.slice none 0 0)])], ?_, 0, [], [], 0, ?_⟩ ?_
  · simp only [vcs, tbl, crs, List.map, reduceIte, Nat.reduceLT, Nat.reduceLeDiff, Nat.reduceEqDiff, Nat.reduceAdd, Nat.reduceMul, Nat.reduceSub, List.all_cons, List.all_nil, Bool.and_true, Bool.and_self, ne_eq, reduceCtorEq, not_false_eq_true, and_self]
    exact Sub.at 28 rfl (Sub.at 3 rfl (Sub.at 6 rfl (Sub.nil _)))
  · simp only [vcs, tbl, crs, List.map, reduceIte, Nat.reduceLT, Nat.reduceLeDiff, Nat.reduceEqDiff, Nat.reduceAdd, Nat.reduceMul, Nat.reduceSub, List.all_cons, List.all_nil, Bool.and_true, Bool.and_self, ne_eq, reduceCtorEq, not_false_eq_true, and_self]
    exact ⟨rfl, Nat.zero_le _, Nat.zero_le _, cK, rfl, by simpa using (⟨hg1, hfk, hok⟩ : NewOwn m m1 Fk)⟩
  · rintro g' L1 m3 ⟨i, dn, G, cap', h4, h5, hc1, hc2, hi, rfl, cK, hdn, no3⟩
    have hg03 := no3.grow
    have hdl : dn.length = i * 8 := by rw [hdn.length, flatMap_len Plan.row_len, List.length_map, List.length_take]; congr 1; omega
    simp only [vcs, tbl, crs, List.map, reduceIte, Nat.reduceLT, Nat.reduceLeDiff, Nat.reduceEqDiff, Nat.reduceAdd, Nat.reduceMul, Nat.reduceSub, List.all_cons, List.all_nil, Bool.and_true, Bool.and_self, ne_eq, reduceCtorEq, not_false_eq_true, and_self] at h4 h5
    simp only [vcs, tbl, crs, List.map, reduceIte, Nat.reduceLT, Nat.reduceLeDiff, Nat.reduceEqDiff, Nat.reduceAdd, Nat.reduceMul, Nat.reduceSub, List.all_cons, List.all_nil, Bool.and_true, Bool.and_self, ne_eq, reduceCtorEq, not_false_eq_true, and_self, h4, h5]
    refine ⟨fun hlt => ?_, fun hge => ?_⟩
    · have hlt : i < ss.length := by omega
      obtain ⟨ad, vs, Fp, ha, hvl, hcell, hvp, _⟩ := c2.elem Plan.row_len (by decide) (List.getElem?_eq_getElem hlt)
      refine ⟨by omega, by omega, ad, ha, vs, hvl, fun j v hj => hg03.cell (by simpa using hcell j v hj), ?_⟩
      have hx1 := hp _ (List.getElem_mem hlt)
      have hmt : ((ss.take (i + 1)).map (mapP cs)).flatMap Plan.row = ((ss.take i).map (mapP cs)).flatMap Plan.row ++ (mapP cs ss[i]).row := by rw [List.take_add_one, List.getElem?_eq_getElem hlt, List.map_append, List.flatMap_append]; simp only [Option.toList_some, List.map_cons, List.map_nil, List.flatMap_cons, List.flatMap_nil, List.append_nil]
      obtain ⟨e, he⟩ : ∃ e, ss[i] = e := ⟨_, rfl⟩
      rw [he] at hx1 hvp hmt
      have hvp' := hvp
      obtain ⟨t, on, wh, or, it, nm, dst, li⟩ := e
      obtain ⟨y1, y2, y3, y4, y5, y6, E1, E2, E3, E4, E5, E6, rfl, q1, q2, q3, q4, q5, q6, rfl⟩ := Plan.vals hvp'
      obtain ⟨b1, n1, rfl, _⟩ := q1.slice
      obtain ⟨b2, n2, rfl, _⟩ := q2.slice
      obtain ⟨b3, n3, rfl, _⟩ := q3.slice
      obtain ⟨b4, n4, rfl, _⟩ := q4.slice
      obtain ⟨b5, n5, rfl, _⟩ := q5.slice
      obtain ⟨b6, n6, rfl, _⟩ := q6.slice
      simp only [vcs, tbl, crs, List.map, reduceIte, Nat.reduceLT, Nat.reduceLeDiff, Nat.reduceEqDiff, Nat.reduceAdd, Nat.reduceMul, Nat.reduceSub, List.all_cons, List.all_nil, Bool.and_true, Bool.and_self, ne_eq, reduceCtorEq, not_false_eq_true, and_self, h4, h5]
      refine (hx1 _ _ _ (hvp.grow hg03)).mono ?_
      rintro r m4 ⟨hg4, us, F4, rfl, hvr, hf4, ho4⟩
      have hvr' := hvr
      rw [mapP] at hvr'
      obtain ⟨z1, z2, z3, z4, z5, z6, D1, D2, D3, D4, D5, D6, rfl, r1, r2, r3, r4, r5, r6, hF4⟩ := Plan.vals hvr'
      obtain ⟨d1, k1, rfl, _⟩ := r1.slice
      obtain ⟨d2, k2, rfl, _⟩ := r2.slice
      obtain ⟨d3, k3, rfl, _⟩ := r3.slice
      obtain ⟨d4, k4, rfl, _⟩ := r4.slice
      obtain ⟨d5, k5, rfl, _⟩ := r5.slice
      obtain ⟨d6, k6, rfl, _⟩ := r6.slice
      simp only [vcs, tbl, crs, List.map, reduceIte, Nat.reduceLT, Nat.reduceLeDiff, Nat.reduceEqDiff, Nat.reduceAdd, Nat.reduceMul, Nat.reduceSub, List.all_cons, List.all_nil, Bool.and_true, Bool.and_self, ne_eq, reduceCtorEq, not_false_eq_true, and_self, h4, h5, range1, rep1, Nat.zero_mul, Nat.zero_add, Nat.le_refl, hdl]
      refine ⟨hvr.oneCell, by omega, by omega, fun cap2 hc3 hc4 => ?_⟩
      rw [wrap_id (by omega) (by omega)]
      refine ⟨_, Sub.at 28 rfl (Sub.at 3 rfl (Sub.at 6 rfl (Sub.nil _))), ⟨i + 1, _, G ++ F4, cap2, by simp, rfl, by omega, by omega, by omega, rfl, cK.grow hg4, ?_, ?_⟩, by omega⟩
      · rw [hmt, List.take_of_length_le (l := dn) (by omega)]
        exact (hdn.grow hg4).join hvr
      · rw [← List.append_assoc]; exact no3.step hg4 hf4 ho4
    · have : i = ss.length := by omega
      subst this
      rw [List.take_length] at hdn
      intro b m' hpb
      by_cases hne : ss = []
      · subst hne
        obtain ⟨rfl, rfl⟩ := valsF_nil (show ValsF m3 [] dn G from hdn)
        have no := (show NewOwn m m3 (Fk ++ []) from no3).go hpb.grow
        refine ⟨no.grow, _, _, rfl, ?_, no.fresh, no.own⟩
        exact PExpr.mk_valsK (List.length_map _) rfl hv (cK.grow hpb.grow) ⟨_, _, rfl, hc1, hc2, by simp, .inl ⟨rfl, rfl⟩⟩
      · have cS := CellF.of_pubN hpb hdn (fun e => by have := congrArg List.length e; rw [flatMap_len Plan.row_len, List.length_map] at this; have h0 : ([] : List D).length = 0 := rfl; have : ss.length ≠ 0 := fun e => hne (List.eq_nil_of_length_eq_zero e); omega) hc1 hc2
        have no : NewOwn m m' (Fk ++ (b :: G)) := (no3.pub hpb).perm (List.perm_iff_count.2 fun x => by simp only [List.count_cons, List.count_append]; omega)
        refine ⟨no.grow, _, _, rfl, ?_, no.fresh, no.own⟩
        exact PExpr.mk_valsK (List.length_map _) (List.length_map _) hv (cK.grow hpb.grow) cS

end Go.Proofs.Ytklligemdfnimaa