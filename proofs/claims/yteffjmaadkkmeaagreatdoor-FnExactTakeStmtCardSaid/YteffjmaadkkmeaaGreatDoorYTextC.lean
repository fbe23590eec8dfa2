/-
  The reference and the program, walked: part 3.
  Conditions: none.
-/
import Derived.Test.YteffjmaadkkmeaaGreatDoorYTextB
set_option linter.unusedVariables false
set_option linter.unusedSimpArgs false
set_option linter.unusedSectionVars false
set_option maxRecDepth 8000
namespace Go.Proofs.YteffjmaadkkmeaaGreatDoor
open Go Go.Dv
open Go.Vc (D shrI xorI andI and255)
set_option maxHeartbeats 2000000 in
theorem l12Expr3 (L : List Tok) (hL : L.length ≤ 1048576) (hT : ∀ t ∈ L, t.text.size ≤ 1048576) {f : Nat → PM Expr} {q : PM Query} (ok : ∀ lv, OkM (L := L) (f lv)) (okq : OkM (L := L) q) (hf : ∀ lv : Nat, 1 ≤ lv → lv ≤ 8 → SpE L 39 [vi lv] (f lv)) (hp : SpE L 90 [] (f 9)) (hq : SpQ L 53 q) : SpE L 39 [vi (3 : Nat)] (stepE L f q 3) := by
 intro s x s' h ha
 unfold stepE at h
 simp only [if_true] at h
 refine cl_of_d follows_mixed false Tryz.func39 rfl (by kernel_rfl) ?_
 simp only [Tryz.f39, tt, seval]
 refine CallQ.intro (l12Maybe_d L hL hT s 15 (by omega) (by omega) ha) ?_ ?_ ?_
 ·decide
 ·simp only [tt, seval, PB]
 rintro r os ⟨rfl, rfl⟩ hos
 simp only [tt, seval, PB]
 cases c15 : isKey L s 15 with
 | true =>
  rw [if_pos c15] at h
  split at h
  ·cases h
  rename_i e s1 he
  injection h with h; injection h with h1 h2; subst h1 h2
  simp only [tt, seval, tkT, tkF, muT, muF]
  obtain ⟨k1, p1, n1, v1, q1, m1, ks1, ss1⟩ := e
  have c1 := hf 3 (by omega) (by omega) _ _ _ he (adv_le (isKey_lt c15))
  rw [Expr.row_mk] at c1
  refine CallQ.intro (c1) ?_ ?_ ?_
  ·decide
  ·simp only [tt, seval, PB, Val.row]
  rintro r os ⟨rfl, rfl⟩ hos
  simp only [tt, seval, PB, Val.row]
  refine ⟨.ag (csOf (mUn 15 (Expr.mk k1 p1 n1 v1 q1 m1 ks1 ss1)).row), [PB L (s1)], ⟨rfl, rfl⟩, endOk ?_⟩
  simp only [tt, seval, bae, PB, mLit, mCol, mKids, mUn, mBin, zExpr, zVal, z0, Expr.row_mk, Query.row_mk, List.flatMap_nil, List.flatMap_cons, List.append_nil, List.length_nil, List.length_cons, Val.row]
 | false =>
  rw [if_neg (by rw [c15]; simp)] at h
  simp only [tt, seval, tkT, tkF, muT, muF, Bool.false_eq_true]
  obtain ⟨k1, p1, n1, v1, q1, m1, ks1, ss1⟩ := x
  have c1 := hf 4 (by omega) (by omega) _ _ _ h ha
  rw [Expr.row_mk] at c1
  refine CallQ.intro (c1) ?_ ?_ ?_
  ·decide
  ·simp only [tt, seval, PB, Val.row]
  rintro r os ⟨rfl, rfl⟩ hos
  simp only [tt, seval, PB, Val.row]
  refine ⟨.ag (csOf ((Expr.mk k1 p1 n1 v1 q1 m1 ks1 ss1)).row), [PB L (s')], ⟨rfl, rfl⟩, endOk ?_⟩
  simp only [tt, seval, bae, PB, mLit, mCol, mKids, mUn, mBin, zExpr, zVal, z0, Expr.row_mk, Query.row_mk, List.flatMap_nil, List.flatMap_cons, List.append_nil, List.length_nil, List.length_cons, Val.row]
theorem l12Expr4 (L : List Tok) (hL : L.length ≤ 1048576) (hT : ∀ t ∈ L, t.text.size ≤ 1048576) {f : Nat → PM Expr} {q : PM Query} (ok : ∀ lv, OkM (L := L) (f lv)) (okq : OkM (L := L) q) (hf : ∀ lv : Nat, 1 ≤ lv → lv ≤ 8 → SpE L 39 [vi lv] (f lv)) (hp : SpE L 90 [] (f 9)) (hq : SpQ L 53 q) : SpE L 39 [vi (4 : Nat)] (stepE L f q 4) := by
 intro s x s' h ha
 have h : cmpM L f q s = some (x, s') := h
 refine cl_of_d follows_mixed false Tryz.func39 rfl (by kernel_rfl) ?_
 simp only [Tryz.f39, tt, seval]
 obtain ⟨k1, p1, n1, v1, q1, m1, ks1, ss1⟩ := x
 have c1 := l12Cmp_step L hL hT ok okq (hf 1 (by omega) (by omega)) (hf 5 (by omega) (by omega)) hq _ _ _ h ha
 rw [Expr.row_mk] at c1
 refine CallQ.intro (c1) ?_ ?_ ?_
 ·decide
 ·simp only [tt, seval, PB, Val.row]
 rintro r os ⟨rfl, rfl⟩ hos
 simp only [tt, seval, PB, Val.row]
 refine ⟨.ag (csOf ((Expr.mk k1 p1 n1 v1 q1 m1 ks1 ss1)).row), [PB L (s')], ⟨rfl, rfl⟩, endOk ?_⟩
 simp only [tt, seval, bae, PB, mLit, mCol, mKids, mUn, mBin, zExpr, zVal, z0, Expr.row_mk, Query.row_mk, List.flatMap_nil, List.flatMap_cons, List.append_nil, List.length_nil, List.length_cons, Val.row]
set_option maxHeartbeats 2000000 in
theorem l12Expr8 (L : List Tok) (hL : L.length ≤ 1048576) (hT : ∀ t ∈ L, t.text.size ≤ 1048576) {f : Nat → PM Expr} {q : PM Query} (ok : ∀ lv, OkM (L := L) (f lv)) (okq : OkM (L := L) q) (hf : ∀ lv : Nat, 1 ≤ lv → lv ≤ 8 → SpE L 39 [vi lv] (f lv)) (hp : SpE L 90 [] (f 9)) (hq : SpQ L 53 q) : SpE L 39 [vi (8 : Nat)] (stepE L f q 8) := by
 intro s x s' h ha
 unfold stepE at h
 simp only [Nat.reduceEqDiff, if_false, if_true] at h
 refine cl_of_d follows_mixed false Tryz.func39 rfl (by kernel_rfl) ?_
 simp only [Tryz.f39, tt, seval]
 refine CallQ.intro (l12SignC_d L hL hT s 45 ha) ?_ ?_ ?_
 ·decide
 ·simp only [tt, seval, PB]
 rintro r os ⟨rfl, rfl⟩ hos
 simp only [tt, seval, PB]
 cases c45 : isSg L s 45 with
 | true =>
  rw [if_pos c45] at h
  split at h
  ·cases h
  rename_i e s1 he
  injection h with h; injection h with h1 h2; subst h1 h2
  simp only [tt, seval]
  refine CallQ.intro (l12Step_d L hL hT s true (fun _ => isSg_lt c45)) ?_ ?_ ?_
  ·decide
  ·simp only [tt, seval, PB, muT]
  rintro r os ⟨rfl, rfl⟩ hos
  simp only [tt, seval, PB, muT]
  obtain ⟨k1, p1, n1, v1, q1, m1, ks1, ss1⟩ := e
  have c1 := hf 8 (by omega) (by omega) _ _ _ he (adv_le (isSg_lt c45))
  rw [Expr.row_mk] at c1
  refine CallQ.intro (c1) ?_ ?_ ?_
  ·decide
  ·simp only [tt, seval, PB, Val.row]
  rintro r os ⟨rfl, rfl⟩ hos
  simp only [tt, seval, PB, Val.row]
  refine ⟨.ag (csOf (mUn 16 (Expr.mk k1 p1 n1 v1 q1 m1 ks1 ss1)).row), [PB L (s1)], ⟨rfl, rfl⟩, endOk ?_⟩
  simp only [tt, seval, bae, PB, mLit, mCol, mKids, mUn, mBin, zExpr, zVal, z0, Expr.row_mk, Query.row_mk, List.flatMap_nil, List.flatMap_cons, List.append_nil, List.length_nil, List.length_cons, Val.row]
 | false =>
  rw [if_neg (by rw [c45]; simp)] at h
  simp only [tt, seval, Bool.false_eq_true]
  obtain ⟨k1, p1, n1, v1, q1, m1, ks1, ss1⟩ := x
  have c1 := hp _ _ _ h ha
  rw [Expr.row_mk] at c1
  refine CallQ.intro (c1) ?_ ?_ ?_
  ·decide
  ·simp only [tt, seval, PB, Val.row]
  rintro r os ⟨rfl, rfl⟩ hos
  simp only [tt, seval, PB, Val.row]
  refine ⟨.ag (csOf ((Expr.mk k1 p1 n1 v1 q1 m1 ks1 ss1)).row), [PB L (s')], ⟨rfl, rfl⟩, endOk ?_⟩
  simp only [tt, seval, bae, PB, mLit, mCol, mKids, mUn, mBin, zExpr, zVal, z0, Expr.row_mk, Query.row_mk, List.flatMap_nil, List.flatMap_cons, List.append_nil, List.length_nil, List.length_cons, Val.row]
theorem opAt_bad {L : List Tok} {s : PS} (w : Nat) (h : s.b = true) : opAt L s w = 0 := by
 cases Nat.eq_zero_or_pos (opAt L s w) with
 | inl e => exact e
 | inr e => have := (opAt_lt (L := L) (s := s) (lv := w) (by omega)).1; rw [h] at this; cases this
set_option maxHeartbeats 4000000 in
theorem l12ExprB (L : List Tok) (hL : L.length ≤ 1048576) (hT : ∀ t ∈ L, t.text.size ≤ 1048576) {f : Nat → PM Expr} {q : PM Query} (ok : ∀ lv, OkM (L := L) (f lv)) (okq : OkM (L := L) q) (hf : ∀ lv : Nat, 1 ≤ lv → lv ≤ 8 → SpE L 39 [vi lv] (f lv)) (hp : SpE L 90 [] (f 9)) (hq : SpQ L 53 q) (w : Nat) (hw : w ∈ [1, 2, 5, 6, 7]) : SpE L 39 [vi w] (stepE L f q w) := by
 intro s x s' h ha
 have hw2 : w ∈ [1, 2, 4, 5, 6, 7] := by simp only [List.mem_cons, List.not_mem_nil, or_false] at hw ⊢; omega
 have hw3 : ¬ w = 3 ∧ ¬ w = 4 ∧ ¬ w = 8 ∧ ¬ w = 9 ∧ 1 ≤ w ∧ w ≤ 7 := by simp only [List.mem_cons, List.not_mem_nil, or_false] at hw; omega
 obtain ⟨w3, w4, w8, w9, w1, w7⟩ := hw3
 have g3 : decide ((w : Int) = 3) = false := decide_eq_false (by omega)
 have g4 : decide ((w : Int) = 4) = false := decide_eq_false (by omega)
 have g8 : decide ((w : Int) = 8) = false := decide_eq_false (by omega)
 have p3 : ((w : Int) = 3) = False := eq_false (by omega)
 have p4 : ((w : Int) = 4) = False := eq_false (by omega)
 have p8 : ((w : Int) = 8) = False := eq_false (by omega)
 have ew : IntKind.i64.wrap ((w : Int) + 1) = ((w + 1 : Nat) : Int) := wrap_id (n := (w : Int) + 1) (by omega) (by omega)
 unfold stepE at h
 rw [if_neg w3, if_neg w4, if_neg w8, if_neg w9] at h
 split at h
 ·cases h
 rename_i e s1 he
 have o1 := ok (w + 1) _ _ _ he
 have ha1 := o1.2.1 ha
 obtain ⟨k1, p1, n1, v1, q1, m1, ks1, ss1⟩ := e
 have c1 := hf (w + 1) (by omega) (by omega) _ _ _ he ha
 rw [Expr.row_mk] at c1
 refine cl_of_d follows_mixed false Tryz.func39 rfl (by kernel_rfl) ?_
 simp only [Tryz.f39, tt, seval]
 simp only [tt, seval, g3, g4, g8, p3, p4, p8, ew]
 refine CallQ.intro (c1) ?_ ?_ ?_
 ·decide
 ·simp (config := { maxSteps := 2000000 }) only [tt, seval, PB, Val.row, ew]
 rintro r os ⟨rfl, rfl⟩ hos
 simp (config := { maxSteps := 2000000 }) only [tt, seval, PB, Val.row, ew]
 refine dLoop.gh [] ?_
 refine dLoop0.introR (fun f' Lo p => ∃ (e : Expr) (v : PS) (n : Nat), chainM L (f (w + 1)) w n e v = some (x, s') ∧ v.a ≤ L.length ∧ (Lo = [(9000, .str (PB L v)), (5, .str (csOf (e).row)), (4, .str [.v (.int .i64 0), .v (.int .i64 0), .v (.bool false), .v (.int .i64 0), .v (.int .i64 0), .v (.string ByteArray.empty), .v (.string ByteArray.empty), .v (.string ByteArray.empty), .v (.slice none 0 0), .v (.slice none 0 0)])] ∨ (∃ (op : Nat) (a b : Expr), e = mBin op a b ∧ Lo = [(9000, .str (PB L v)), (5, .str [.v (.int .i64 4), .v (.int .i64 op), .v (.bool false), .v (.int .i64 0), .v (.int .i64 0), .v (.string ByteArray.empty), .v (.string ByteArray.empty), .v (.string ByteArray.empty), .s 10056 2, .v (.slice none 0 0)]), (10056, .arr 29 2 ([a, b].flatMap Expr.row) none), (4, .str [.v (.int .i64 0), .v (.int .i64 0), .v (.bool false), .v (.int .i64 0), .v (.int .i64 0), .v (.string ByteArray.empty), .v (.string ByteArray.empty), .v (.string ByteArray.empty), .v (.slice none 0 0), .v (.slice none 0 0)])])) ∧ p = none) (fun _ Lo _ => L.length - atS Lo) [(9000, .str (PB L s1)), (5, .str (csOf ((Expr.mk k1 p1 n1 v1 q1 m1 ks1 ss1)).row)), (4, .str [.v (.int .i64 0), .v (.int .i64 0), .v (.bool false), .v (.int .i64 0), .v (.int .i64 0), .v (.string ByteArray.empty), .v (.string ByteArray.empty), .v (.string ByteArray.empty), .v (.slice none 0 0), .v (.slice none 0 0)])] none ⟨by rw [Expr.row_mk]; exact SubO.cons rfl (SubO.cons rfl (SubO.cons rfl (SubO.nil _))), PoSub.none _, ?_⟩ ?_
 ·simp only [tt, seval]
  exact ⟨(Expr.mk k1 p1 n1 v1 q1 m1 ks1 ss1), s1, L.length + 1, h, ha1, .inl rfl⟩
 ·rintro g' Lo p ⟨e, v, n, hm, hv, rfl | ⟨op, a, b, rfl, rfl⟩, rfl⟩
  ·obtain ⟨k1, p1, n1, v1, q1, m1, ks1, ss1⟩ := e
   rw [Expr.row_mk]
   simp only [tt, seval, Val.row]
   cases n with
   | zero => cases hm
   | succ n =>
   rw [chainM] at hm
   have fini : opAt L v w = 0 → ((Expr.mk k1 p1 n1 v1 q1 m1 ks1 ss1) = x ∧ v = s') := fun e0 => by
    rw [if_pos e0] at hm
    injection hm with hm; injection hm with e1 e2; exact ⟨e1, e2⟩
   cases hb : v.b with
   | true =>
    obtain ⟨e1, e2⟩ := fini (opAt_bad w hb)
    subst e1 e2
    simp only [tt, seval, PB, hb, Val.row]
    refine ⟨.ag (csOf ((Expr.mk k1 p1 n1 v1 q1 m1 ks1 ss1)).row), [PB L v], ⟨rfl, by rw [PB, hb]⟩, endOk ?_⟩
    simp only [tt, seval, bae, PB, mLit, mCol, mKids, mUn, mBin, zExpr, zVal, z0, Expr.row_mk, Query.row_mk, List.flatMap_nil, List.flatMap_cons, List.append_nil, List.length_nil, List.length_cons, Val.row, hb]
   | false =>
   have hpb : PB L v = [.sl L.length (L.flatMap Tok.row) none, .v (.int .i64 v.a), .v (.bool false)] := by rw [PB, hb]
   have cop := l12Op_d L hL hT v w hw2 hv
   rw [hpb] at cop
   simp only [tt, seval, PB, hb, Val.row]
   refine CallQ.intro (cop) ?_ ?_ ?_
   ·decide
   ·simp only [tt, seval, PB, hb, Val.row]
   rintro r os ⟨rfl, rfl⟩ hos
   simp only [tt, seval, PB, hb, Val.row]
   by_cases hop : opAt L v w = 0
   ·obtain ⟨e1, e2⟩ := fini hop
    subst e1 e2
    have e0 : decide (((opAt L v w : Nat) : Int) = 0) = true := decide_eq_true (by omega)
    simp only [tt, seval, hop, e0, PB, hb, Val.row]
    refine ⟨.ag (csOf ((Expr.mk k1 p1 n1 v1 q1 m1 ks1 ss1)).row), [PB L v], ⟨rfl, by rw [PB, hb]⟩, endOk ?_⟩
    simp only [tt, seval, bae, PB, mLit, mCol, mKids, mUn, mBin, zExpr, zVal, z0, Expr.row_mk, Query.row_mk, List.flatMap_nil, List.flatMap_cons, List.append_nil, List.length_nil, List.length_cons, Val.row, hb]
   ·have e0 : decide (((opAt L v w : Nat) : Int) = 0) = false := decide_eq_false (by omega)
    have e1 : (((opAt L v w : Nat) : Int) = 0) = False := eq_false (by omega)
    rw [if_neg hop] at hm
    split at hm
    ·cases hm
    rename_i z u hz
    have hav := adv_le (L := L) (opAt_lt hop)
    have o3 := ok (w + 1) _ _ _ hz
    have o3a : v.a + 1 ≤ u.a := o3.1
    have hu := o3.2.1 hav
    have hlt := (opAt_lt hop).2
    obtain ⟨k2, p2, n2, v2, q2, m2, ks2, ss2⟩ := z
    have c2 := hf (w + 1) (by omega) (by omega) _ _ _ hz hav
    rw [Expr.row_mk] at c2
    have cst := l12Step_d L hL hT v true (fun _ => opAt_lt hop)
    rw [hpb] at cst
    simp only [tt, seval, e0, e1]
    refine CallQ.intro (cst) ?_ ?_ ?_
    ·decide
    ·simp only [tt, seval, PB, muT, Val.row]
    rintro r os ⟨rfl, rfl⟩ hos
    simp only [tt, seval, PB, muT, Val.row]
    apply dDrawn_j1 5
    case h1 =>
     refine dDrawn.intro [55] (.take 0 (.take 2 (.take 3 (.take 4 (.br 1 (.br 5 (.br 6 (.take 7 (.br 8 .done .nobr)) .nobr) .nobr) (.br 5 (.take 1 (.br 6 (.take 7 (.br 8 .done .nobr)) .nobr)) .nobr)))))) (by kernel_rfl) ?_
     simp only [tt, seval]
     all_goals repeat' first | refine brC ?_ ?_ | refine brC2 ?_ ?_
     all_goals
      refine CallQ.intro (c2) ?_ ?_ ?_
      ·decide
      ·simp (config := { maxSteps := 2000000 }) only [tt, seval, PB, Val.row, ew]
       try decide
      rintro r os ⟨rfl, rfl⟩ hos
      simp (config := { maxSteps := 2000000 }) only [tt, seval, PB, Val.row, ew]
     all_goals exact ⟨rfl, rfl, rfl⟩
    case h2 =>
     intro f' hj0
     try simp only [tt, seval, hj0]
     refine ⟨[.ren 56 10056], by decide, by decide, ?_⟩
     simp only [tt, seval]
     refine ⟨[(9000, .str (PB L u)), (5, .str [.v (.int .i64 4), .v (.int .i64 (opAt L v w)), .v (.bool false), .v (.int .i64 0), .v (.int .i64 0), .v (.string ByteArray.empty), .v (.string ByteArray.empty), .v (.string ByteArray.empty), .s 10056 2, .v (.slice none 0 0)]), (10056, .arr 29 2 ([(Expr.mk k1 p1 n1 v1 q1 m1 ks1 ss1), (Expr.mk k2 p2 n2 v2 q2 m2 ks2 ss2)].flatMap Expr.row) none), (4, .str [.v (.int .i64 0), .v (.int .i64 0), .v (.bool false), .v (.int .i64 0), .v (.int .i64 0), .v (.string ByteArray.empty), .v (.string ByteArray.empty), .v (.string ByteArray.empty), .v (.slice none 0 0), .v (.slice none 0 0)])], none, by simp only [bae, PB, mLit, mCol, mKids, mUn, mBin, zExpr, zVal, z0, Expr.row_mk, Query.row_mk, List.flatMap_nil, List.flatMap_cons, List.append_nil, List.length_nil, List.length_cons, Val.row]; exact SubO.cons rfl (SubO.cons rfl (SubO.cons rfl (SubO.cons rfl (SubO.nil _)))), PoSub.none _, ⟨mBin (opAt L v w) (Expr.mk k1 p1 n1 v1 q1 m1 ks1 ss1) (Expr.mk k2 p2 n2 v2 q2 m2 ks2 ss2), u, n, hm, hu, .inr ⟨_, (Expr.mk k1 p1 n1 v1 q1 m1 ks1 ss1), (Expr.mk k2 p2 n2 v2 q2 m2 ks2 ss2), rfl, rfl⟩, rfl⟩, ?_⟩
     show L.length - ((u.a : Int)).toNat < L.length - ((v.a : Int)).toNat
     omega
  ·skip
   simp only [tt, seval, Val.row]
   cases n with
   | zero => cases hm
   | succ n =>
   rw [chainM] at hm
   have fini : opAt L v w = 0 → ((mBin op a b) = x ∧ v = s') := fun e0 => by
    rw [if_pos e0] at hm
    injection hm with hm; injection hm with e1 e2; exact ⟨e1, e2⟩
   cases hb : v.b with
   | true =>
    obtain ⟨e1, e2⟩ := fini (opAt_bad w hb)
    subst e1 e2
    simp only [tt, seval, PB, hb, Val.row]
    refine ⟨.ag (csOf ((mBin op a b)).row), [PB L v], ⟨rfl, by rw [PB, hb]⟩, endOk ?_⟩
    simp only [tt, seval, bae, PB, mLit, mCol, mKids, mUn, mBin, zExpr, zVal, z0, Expr.row_mk, Query.row_mk, List.flatMap_nil, List.flatMap_cons, List.append_nil, List.length_nil, List.length_cons, Val.row, hb]
   | false =>
   have hpb : PB L v = [.sl L.length (L.flatMap Tok.row) none, .v (.int .i64 v.a), .v (.bool false)] := by rw [PB, hb]
   have cop := l12Op_d L hL hT v w hw2 hv
   rw [hpb] at cop
   simp only [tt, seval, PB, hb, Val.row]
   refine CallQ.intro (cop) ?_ ?_ ?_
   ·decide
   ·simp only [tt, seval, PB, hb, Val.row]
   rintro r os ⟨rfl, rfl⟩ hos
   simp only [tt, seval, PB, hb, Val.row]
   by_cases hop : opAt L v w = 0
   ·obtain ⟨e1, e2⟩ := fini hop
    subst e1 e2
    have e0 : decide (((opAt L v w : Nat) : Int) = 0) = true := decide_eq_true (by omega)
    simp only [tt, seval, hop, e0, PB, hb, Val.row]
    refine ⟨.ag (csOf ((mBin op a b)).row), [PB L v], ⟨rfl, by rw [PB, hb]⟩, endOk ?_⟩
    simp only [tt, seval, bae, PB, mLit, mCol, mKids, mUn, mBin, zExpr, zVal, z0, Expr.row_mk, Query.row_mk, List.flatMap_nil, List.flatMap_cons, List.append_nil, List.length_nil, List.length_cons, Val.row, hb]
   ·have e0 : decide (((opAt L v w : Nat) : Int) = 0) = false := decide_eq_false (by omega)
    have e1 : (((opAt L v w : Nat) : Int) = 0) = False := eq_false (by omega)
    rw [if_neg hop] at hm
    split at hm
    ·cases hm
    rename_i z u hz
    have hav := adv_le (L := L) (opAt_lt hop)
    have o3 := ok (w + 1) _ _ _ hz
    have o3a : v.a + 1 ≤ u.a := o3.1
    have hu := o3.2.1 hav
    have hlt := (opAt_lt hop).2
    obtain ⟨k2, p2, n2, v2, q2, m2, ks2, ss2⟩ := z
    have c2 := hf (w + 1) (by omega) (by omega) _ _ _ hz hav
    rw [Expr.row_mk] at c2
    have cst := l12Step_d L hL hT v true (fun _ => opAt_lt hop)
    rw [hpb] at cst
    simp only [tt, seval, e0, e1]
    refine CallQ.intro (cst) ?_ ?_ ?_
    ·decide
    ·simp only [tt, seval, PB, muT, Val.row]
    rintro r os ⟨rfl, rfl⟩ hos
    simp only [tt, seval, PB, muT, Val.row]
    apply dDrawn_j1 5
    case h1 =>
     refine dDrawn.intro [55] (.take 0 (.take 2 (.take 3 (.take 4 (.br 1 (.br 5 (.br 6 (.take 7 (.br 8 .done .nobr)) .nobr) .nobr) (.br 5 (.take 1 (.br 6 (.take 7 (.br 8 .done .nobr)) .nobr)) .nobr)))))) (by kernel_rfl) ?_
     simp only [tt, seval]
     all_goals repeat' first | refine brC ?_ ?_ | refine brC2 ?_ ?_
     all_goals
      refine CallQ.intro (c2) ?_ ?_ ?_
      ·decide
      ·simp (config := { maxSteps := 2000000 }) only [tt, seval, PB, Val.row, ew]
       try decide
      rintro r os ⟨rfl, rfl⟩ hos
      simp (config := { maxSteps := 2000000 }) only [tt, seval, PB, Val.row, ew]
     all_goals exact ⟨rfl, rfl, rfl⟩
    case h2 =>
     intro f' hj0
     try simp only [tt, seval, hj0]
     refine ⟨[.ren 56 10056], by decide, by decide, ?_⟩
     simp only [tt, seval]
     refine ⟨[(9000, .str (PB L u)), (5, .str [.v (.int .i64 4), .v (.int .i64 (opAt L v w)), .v (.bool false), .v (.int .i64 0), .v (.int .i64 0), .v (.string ByteArray.empty), .v (.string ByteArray.empty), .v (.string ByteArray.empty), .s 10056 2, .v (.slice none 0 0)]), (10056, .arr 29 2 ([(mBin op a b), (Expr.mk k2 p2 n2 v2 q2 m2 ks2 ss2)].flatMap Expr.row) none), (4, .str [.v (.int .i64 0), .v (.int .i64 0), .v (.bool false), .v (.int .i64 0), .v (.int .i64 0), .v (.string ByteArray.empty), .v (.string ByteArray.empty), .v (.string ByteArray.empty), .v (.slice none 0 0), .v (.slice none 0 0)])], none, by simp only [bae, PB, mLit, mCol, mKids, mUn, mBin, zExpr, zVal, z0, Expr.row_mk, Query.row_mk, List.flatMap_nil, List.flatMap_cons, List.append_nil, List.length_nil, List.length_cons, Val.row]; exact SubO.cons rfl (SubO.cons rfl (SubO.cons rfl (SubO.cons rfl (SubO.nil _)))), PoSub.none _, ⟨mBin (opAt L v w) (mBin op a b) (Expr.mk k2 p2 n2 v2 q2 m2 ks2 ss2), u, n, hm, hu, .inr ⟨_, (mBin op a b), (Expr.mk k2 p2 n2 v2 q2 m2 ks2 ss2), rfl, rfl⟩, rfl⟩, ?_⟩
     show L.length - ((u.a : Int)).toNat < L.length - ((v.a : Int)).toNat
     omega
theorem l12Source_d (L : List Tok) (hL : L.length ≤ 1048576) (hT : ∀ t ∈ L, t.text.size ≤ 1048576) (s : PS) (ha : s.a ≤ L.length) : Cl Tryz.prog 96 [.c (.p 9000 0)] [PB L s] fun r os => r = .ag (csOf (sourceM L s).1.row) ∧ os = [PB L (sourceM L s).2] := by
 refine cl_of_d follows_mixed false Tryz.func96 rfl (by kernel_rfl) ?_
 simp only [Tryz.f96, tt, seval]
 refine CallQ.intro (l12Text_d L hL hT s 2 (by omega) ha) ?_ ?_ ?_
 ·decide
 ·simp only [tt, seval, PB]
 rintro r os ⟨rfl, rfl⟩ hos
 simp only [tt, seval, PB]
 have ha1 := (Ok.mText (L := L) 2 s).2.1 ha
 have he : sourceM L s = (.mk (mText L 2 s).1 (asM L (mText L 2 s).2).1 [], (asM L (mText L 2 s).2).2) := rfl
 rw [he]
 generalize (mText L 2 s).1 = x at *
 generalize (mText L 2 s).2 = u at *
 refine CallQ.intro (l12As_d L hL hT u ha1) ?_ ?_ ?_
 ·decide
 ·simp only [tt, seval, PB]
 rintro r os ⟨rfl, rfl⟩ hos
 simp only [tt, seval, PB]
 refine ⟨.ag (csOf (Source.mk x (asM L u).1 []).row), [PB L (asM L u).2], ⟨rfl, rfl⟩, endOk ?_⟩
 simp only [tt, seval, PB, Source.row_mk, List.flatMap_nil, List.length_nil]
def SpL (L : List Tok) (fn : FuncId) (m : PM (List Expr)) : Prop := ∀ s x s', m s = some (x, s') → s.a ≤ L.length → Cl Tryz.prog fn [.c (.p 9000 0)] [PB L s] fun r os => r = .c (.sl x.length (x.flatMap Expr.row) none) ∧ os = [PB L s']
theorem l12Where_step (L : List Tok) (hL : L.length ≤ 1048576) (hT : ∀ t ∈ L, t.text.size ≤ 1048576) {f : Nat → PM Expr} (hf1 : SpE L 39 [vi 1] (f 1)) : SpL L 97 (whereM L f) := by
 intro s x s' h ha
 unfold whereM at h
 refine cl_of_d follows_mixed false Tryz.func97 rfl (by kernel_rfl) ?_
 simp only [Tryz.f97, tt, seval]
 refine CallQ.intro (l12Maybe_d L hL hT s 6 (by omega) (by omega) ha) ?_ ?_ ?_
 ·decide
 ·simp only [tt, seval, PB]
 rintro r os ⟨rfl, rfl⟩ hos
 simp only [tt, seval, PB]
 cases c6 : isKey L s 6 with
 | true =>
  rw [if_pos c6] at h
  split at h
  ·cases h
  rename_i e s1 he
  injection h with h; injection h with h1 h2; subst h1 h2
  simp only [tt, seval, tkT, tkF, muT, muF]
  obtain ⟨k1, p1, n1, v1, q1, m1, ks1, ss1⟩ := e
  have c1 := hf1 _ _ _ he (adv_le (isKey_lt c6))
  rw [Expr.row_mk] at c1
  refine CallQ.intro (c1) ?_ ?_ ?_
  ·decide
  ·simp only [tt, seval, PB, Val.row]
  rintro r os ⟨rfl, rfl⟩ hos
  simp only [tt, seval, PB, Val.row]
  refine ⟨.c (.sl [(Expr.mk k1 p1 n1 v1 q1 m1 ks1 ss1)].length ([(Expr.mk k1 p1 n1 v1 q1 m1 ks1 ss1)].flatMap Expr.row) none), [PB L s1], ⟨rfl, rfl⟩, endOk ?_⟩
  simp only [tt, seval, bae, PB, mLit, mCol, mKids, mUn, mBin, zExpr, zVal, z0, Expr.row_mk, Query.row_mk, List.flatMap_nil, List.flatMap_cons, List.append_nil, List.length_nil, List.length_cons, Val.row]
 | false =>
  rw [if_neg (by rw [c6]; simp)] at h
  injection h with h; injection h with h1 h2; subst h1 h2
  simp only [tt, seval, tkT, tkF, muT, muF, Bool.false_eq_true]
  refine ⟨.c (.sl ([] : List Expr).length (([] : List Expr).flatMap Expr.row) none), [PB L s], ⟨rfl, rfl⟩, endOk ?_⟩
  simp only [tt, seval, PB, List.flatMap_nil, List.length_nil]
theorem key_two {L : List Tok} {s : PS} (h : isKey L s 9 = true) : isKey L s 10 = false := by
 unfold isKey isT at h ⊢
 cases ht : tkAt L s 0 with
 | none => rfl
 | some t =>
  rw [ht] at h
  simp only [Bool.and_eq_true, decide_eq_true_eq] at h
  simp only [h.1, h.2]
  decide +kernel
theorem l12Sort_step (L : List Tok) (hL : L.length ≤ 1048576) (hT : ∀ t ∈ L, t.text.size ≤ 1048576) {f : Nat → PM Expr} (ok : ∀ lv, OkM (L := L) (f lv)) (hf1 : SpE L 39 [vi 1] (f 1)) (s : PS) (x : SortKey) (s' : PS) (h : sortM L f s = some (x, s')) (ha : s.a ≤ L.length) : Cl Tryz.prog 98 [.c (.p 9000 0)] [PB L s] fun r os => r = .ag (csOf x.row) ∧ os = [PB L s'] := by
 unfold sortM at h
 split at h
 ·cases h
 rename_i e s1 he
 have ha1 := (ok 1 _ _ _ he).2.1 ha
 obtain ⟨k1, p1, n1, v1, q1, m1, ks1, ss1⟩ := e
 have c1 := hf1 _ _ _ he ha
 rw [Expr.row_mk] at c1
 refine cl_of_d follows_mixed false Tryz.func98 rfl (by kernel_rfl) ?_
 simp only [Tryz.f98, tt, seval]
 refine CallQ.intro (c1) ?_ ?_ ?_
 ·decide
 ·simp only [tt, seval, PB, Val.row]
 rintro r os ⟨rfl, rfl⟩ hos
 simp only [tt, seval, PB, Val.row]
 cases c9 : isKey L s1 9 with
 | true =>
  have c10 := key_two c9
  rw [if_pos c9] at h
  injection h with h; injection h with h1 h2; subst h1 h2
  refine CallQ.intro (l12Maybe_d L hL hT s1 10 (by omega) (by omega) ha1) ?_ ?_ ?_
  ·decide
  ·simp only [tt, seval, PB]
  rintro r os ⟨rfl, rfl⟩ hos
  simp only [tt, seval, PB]
  simp only [tt, seval, c10, tkT, tkF, muT, muF, Bool.false_eq_true]
  refine CallQ.intro (l12Maybe_d L hL hT s1 9 (by omega) (by omega) ha1) ?_ ?_ ?_
  ·decide
  ·simp only [tt, seval, PB]
  rintro r os ⟨rfl, rfl⟩ hos
  simp only [tt, seval, PB]
  simp only [tt, seval, c9, tkT, tkF, muT, muF]
  refine ⟨.ag (csOf (SortKey.mk (Expr.mk k1 p1 n1 v1 q1 m1 ks1 ss1) false).row), [PB L (adv s1)], ⟨rfl, rfl⟩, endOk ?_⟩
  simp only [tt, seval, bae, PB, mLit, mCol, mKids, mUn, mBin, zExpr, zVal, z0, Expr.row_mk, Query.row_mk, List.flatMap_nil, List.flatMap_cons, List.append_nil, List.length_nil, List.length_cons, Val.row, SortKey.row_mk]
 | false =>
  rw [if_neg (by rw [c9]; simp)] at h
  injection h with h; injection h with h1 h2; subst h1 h2
  refine CallQ.intro (l12Maybe_d L hL hT s1 10 (by omega) (by omega) ha1) ?_ ?_ ?_
  ·decide
  ·simp only [tt, seval, PB]
  rintro r os ⟨rfl, rfl⟩ hos
  simp only [tt, seval, PB]
  cases c10 : isKey L s1 10 with
  | true =>
   simp only [tt, seval, tkT, tkF, muT, muF]
   refine ⟨.ag (csOf (SortKey.mk (Expr.mk k1 p1 n1 v1 q1 m1 ks1 ss1) true).row), [PB L (adv s1)], ⟨rfl, rfl⟩, endOk ?_⟩
   simp only [tt, seval, bae, PB, mLit, mCol, mKids, mUn, mBin, zExpr, zVal, z0, Expr.row_mk, Query.row_mk, List.flatMap_nil, List.flatMap_cons, List.append_nil, List.length_nil, List.length_cons, Val.row, SortKey.row_mk]
  | false =>
   simp only [tt, seval, tkT, tkF, muT, muF, Bool.false_eq_true]
   refine CallQ.intro (l12Maybe_d L hL hT s1 9 (by omega) (by omega) ha1) ?_ ?_ ?_
   ·decide
   ·simp only [tt, seval, PB]
   rintro r os ⟨rfl, rfl⟩ hos
   simp only [tt, seval, PB]
   simp only [tt, seval, c9, tkT, tkF, muT, muF]
   refine ⟨.ag (csOf (SortKey.mk (Expr.mk k1 p1 n1 v1 q1 m1 ks1 ss1) false).row), [PB L s1], ⟨rfl, rfl⟩, endOk ?_⟩
   simp only [tt, seval, bae, PB, mLit, mCol, mKids, mUn, mBin, zExpr, zVal, z0, Expr.row_mk, Query.row_mk, List.flatMap_nil, List.flatMap_cons, List.append_nil, List.length_nil, List.length_cons, Val.row, SortKey.row_mk]
theorem star_b (L : List Tok) (s : PS) : starN L s = (isK L s 2 && (decide ((nxT L s 1).kind = 5) && decide ((nxT L s 1).text = ⟨#[46]⟩) && (decide ((nxT L s 2).kind = 5) && decide ((nxT L s 2).text = ⟨#[42]⟩)))) := by
 rw [nx_T L s 1 5 _ (by decide), nx_T L s 2 5 _ (by decide)]; rfl
set_option maxHeartbeats 2000000 in
theorem l12Item_step (L : List Tok) (hL : L.length ≤ 1048576) (hT : ∀ t ∈ L, t.text.size ≤ 1048576) {f : Nat → PM Expr} (ok : ∀ lv, OkM (L := L) (f lv)) (hf1 : SpE L 39 [vi 1] (f 1)) (s : PS) (x : Item) (s' : PS) (h : itemM L f s = some (x, s')) (ha : s.a ≤ L.length) : Cl Tryz.prog 95 [.c (.p 9000 0)] [PB L s] fun r os => r = .ag (csOf x.row) ∧ os = [PB L s'] := by
 unfold itemM at h
 refine cl_of_d follows_mixed false Tryz.func95 rfl (by kernel_rfl) ?_
 simp only [Tryz.f95, tt, seval]
 refine CallQ.intro (l12Next_d L hL hT s 1 (by omega) ha) ?_ ?_ ?_
 ·decide
 ·simp only [tt, seval, PB, Tok.row]
 rintro r os ⟨rfl, rfl⟩ hos
 simp only [tt, seval, PB, Tok.row]
 refine CallQ.intro (l12Next_d L hL hT s 2 (by omega) ha) ?_ ?_ ?_
 ·decide
 ·simp only [tt, seval, PB, Tok.row]
 rintro r os ⟨rfl, rfl⟩ hos
 simp only [tt, seval, PB, Tok.row]
 refine CallQ.intro (l12SignC_d L hL hT s 42 ha) ?_ ?_ ?_
 ·decide
 ·simp only [tt, seval, PB]
 rintro r os ⟨rfl, rfl⟩ hos
 simp only [tt, seval, PB]
 cases c42 : isSg L s 42 with
 | true =>
  rw [if_pos c42] at h
  injection h with h; injection h with h1 h2; subst h1 h2
  simp only [tt, seval]
  refine CallQ.intro (l12Step_d L hL hT s true (fun _ => isSg_lt c42)) ?_ ?_ ?_
  ·decide
  ·simp only [tt, seval, PB, muT]
  rintro r os ⟨rfl, rfl⟩ hos
  simp only [tt, seval, PB, muT]
  refine ⟨.ag (csOf (Item.mk true z0 zExpr z0).row), [PB L (adv s)], ⟨rfl, rfl⟩, endOk ?_⟩
  simp only [tt, seval, bae, PB, mLit, mCol, mKids, mUn, mBin, zExpr, zVal, z0, Expr.row_mk, Query.row_mk, List.flatMap_nil, List.flatMap_cons, List.append_nil, List.length_nil, List.length_cons, Val.row, Item.row_mk]
 | false =>
 rw [if_neg (by rw [c42]; simp)] at h
 simp only [tt, seval, Bool.false_eq_true]
 refine CallQ.intro (l12Kind_d L hL hT s 2 (by omega) ha) ?_ ?_ ?_
 ·decide
 ·simp only [tt, seval, PB]
 rintro r os ⟨rfl, rfl⟩ hos
 simp only [tt, seval, PB]
 refine And.intro (fun hK => ?_) (fun hK => ?_)
 ·simp only [tt, seval, hK]
  refine And.intro (fun g0 => ?_) (fun g0 => ?_)
  ·simp only [tt, seval, g0]
   refine And.intro (fun g1 => ?_) (fun g1 => ?_)
   ·simp only [tt, seval, g1]
    refine And.intro (fun g2 => ?_) (fun g2 => ?_)
    ·simp only [tt, seval, g2]
     refine And.intro (fun g3 => ?_) (fun g3 => ?_)
     ·simp only [tt, seval, g3]
      have hst : starN L s = true := by rw [star_b, hK, g0, g1, g2, g3]; rfl
      rw [if_pos hst] at h
      injection h with h; injection h with h1 h2; subst h1 h2
      have l3 := (starN_lt hst).2
      have l1 := isK_lt hK
      have ha1 := adv_le (L := L) l1
      refine CallQ.intro (l12Text_d L hL hT s 2 (by omega) ha) ?_ ?_ ?_
      ·decide
      ·simp only [tt, seval, PB]
      rintro r os ⟨rfl, rfl⟩ hos
      simp only [tt, seval, PB]
      rw [mt_yes hK]
      simp only [tt, seval]
      refine CallQ.intro (l12Step_d L hL hT (adv s) true (fun _ => ⟨l1.1, by show s.a + 1 < L.length; omega⟩)) ?_ ?_ ?_
      ·decide
      ·simp only [tt, seval, PB, muT]
      rintro r os ⟨rfl, rfl⟩ hos
      simp only [tt, seval, PB, muT]
      refine CallQ.intro (l12Step_d L hL hT (adv (adv s)) true (fun _ => ⟨l1.1, by show s.a + 1 + 1 < L.length; omega⟩)) ?_ ?_ ?_
      ·decide
      ·simp only [tt, seval, PB, muT]
      rintro r os ⟨rfl, rfl⟩ hos
      simp only [tt, seval, PB, muT]
      refine ⟨.ag (csOf (Item.mk true (textAt L s) zExpr z0).row), [PB L (adv (adv (adv s)))], ⟨rfl, rfl⟩, endOk ?_⟩
      simp only [tt, seval, bae, PB, mLit, mCol, mKids, mUn, mBin, zExpr, zVal, z0, Expr.row_mk, Query.row_mk, List.flatMap_nil, List.flatMap_cons, List.append_nil, List.length_nil, List.length_cons, Val.row, Item.row_mk]
     ·simp only [tt, seval, g3, Bool.false_eq_true]
      have hsf : starN L s = false := by first | (rw [star_b, g3]; simp only [Bool.false_and, Bool.and_false]) | (rw [star_b, decide_eq_false g3]; simp only [Bool.false_and, Bool.and_false])
      rw [if_neg (by rw [hsf]; simp)] at h
      split at h
      ·cases h
      rename_i e s1 he
      injection h with h; injection h with h1 h2; subst h1 h2
      have ha1 := (ok 1 _ _ _ he).2.1 ha
      obtain ⟨k1, p1, n1, v1, q1, m1, ks1, ss1⟩ := e
      have c1 := hf1 _ _ _ he ha
      rw [Expr.row_mk] at c1
      refine CallQ.intro (c1) ?_ ?_ ?_
      ·decide
      ·simp only [tt, seval, PB, Val.row]
      rintro r os ⟨rfl, rfl⟩ hos
      simp only [tt, seval, PB, Val.row]
      apply dDrawn_j1 2
      case h1 =>
       refine dDrawn.intro [50] (.take 1 (.br 0 (.br 2 (.take 3 (.br 4 .done .nobr)) .nobr) (.br 2 (.take 0 (.take 3 (.br 4 .done .nobr))) .nobr))) (by kernel_rfl) ?_
       simp only [tt, seval]
       all_goals repeat' first | refine brC ?_ ?_ | refine brC2 ?_ ?_
       all_goals
        refine CallQ.intro (l12As_d L hL hT s1 ha1) ?_ ?_ ?_
        ·decide
        ·simp only [tt, seval, PB, Val.row]
         try decide
        rintro r os ⟨rfl, rfl⟩ hos
        simp only [tt, seval, PB, Val.row]
       all_goals exact ⟨rfl, rfl, rfl⟩
      case h2 =>
       intro f' hj0
       try simp only [tt, seval, hj0]
       refine ⟨.ag (csOf (Item.mk false z0 (Expr.mk k1 p1 n1 v1 q1 m1 ks1 ss1) (asM L s1).1).row), [PB L (asM L s1).2], ⟨rfl, rfl⟩, endOk ?_⟩
       simp only [tt, seval, bae, PB, mLit, mCol, mKids, mUn, mBin, zExpr, zVal, z0, Expr.row_mk, Query.row_mk, List.flatMap_nil, List.flatMap_cons, List.append_nil, List.length_nil, List.length_cons, Val.row, Item.row_mk, hj0]
    ·simp only [tt, seval, g2, Bool.false_eq_true]
     have hsf : starN L s = false := by first | (rw [star_b, g2]; simp only [Bool.false_and, Bool.and_false]) | (rw [star_b, decide_eq_false g2]; simp only [Bool.false_and, Bool.and_false])
     rw [if_neg (by rw [hsf]; simp)] at h
     split at h
     ·cases h
     rename_i e s1 he
     injection h with h; injection h with h1 h2; subst h1 h2
     have ha1 := (ok 1 _ _ _ he).2.1 ha
     obtain ⟨k1, p1, n1, v1, q1, m1, ks1, ss1⟩ := e
     have c1 := hf1 _ _ _ he ha
     rw [Expr.row_mk] at c1
     refine CallQ.intro (c1) ?_ ?_ ?_
     ·decide
     ·simp only [tt, seval, PB, Val.row]
     rintro r os ⟨rfl, rfl⟩ hos
     simp only [tt, seval, PB, Val.row]
     apply dDrawn_j1 2
     case h1 =>
      refine dDrawn.intro [50] (.take 1 (.br 0 (.br 2 (.take 3 (.br 4 .done .nobr)) .nobr) (.br 2 (.take 0 (.take 3 (.br 4 .done .nobr))) .nobr))) (by kernel_rfl) ?_
      simp only [tt, seval]
      all_goals repeat' first | refine brC ?_ ?_ | refine brC2 ?_ ?_
      all_goals
       refine CallQ.intro (l12As_d L hL hT s1 ha1) ?_ ?_ ?_
       ·decide
       ·simp only [tt, seval, PB, Val.row]
        try decide
       rintro r os ⟨rfl, rfl⟩ hos
       simp only [tt, seval, PB, Val.row]
      all_goals exact ⟨rfl, rfl, rfl⟩
     case h2 =>
      intro f' hj0
      try simp only [tt, seval, hj0]
      refine ⟨.ag (csOf (Item.mk false z0 (Expr.mk k1 p1 n1 v1 q1 m1 ks1 ss1) (asM L s1).1).row), [PB L (asM L s1).2], ⟨rfl, rfl⟩, endOk ?_⟩
      simp only [tt, seval, bae, PB, mLit, mCol, mKids, mUn, mBin, zExpr, zVal, z0, Expr.row_mk, Query.row_mk, List.flatMap_nil, List.flatMap_cons, List.append_nil, List.length_nil, List.length_cons, Val.row, Item.row_mk, hj0]
   ·simp only [tt, seval, g1, Bool.false_eq_true]
    have hsf : starN L s = false := by first | (rw [star_b, g1]; simp only [Bool.false_and, Bool.and_false]) | (rw [star_b, decide_eq_false g1]; simp only [Bool.false_and, Bool.and_false])
    rw [if_neg (by rw [hsf]; simp)] at h
    split at h
    ·cases h
    rename_i e s1 he
    injection h with h; injection h with h1 h2; subst h1 h2
    have ha1 := (ok 1 _ _ _ he).2.1 ha
    obtain ⟨k1, p1, n1, v1, q1, m1, ks1, ss1⟩ := e
    have c1 := hf1 _ _ _ he ha
    rw [Expr.row_mk] at c1
    refine CallQ.intro (c1) ?_ ?_ ?_
    ·decide
    ·simp only [tt, seval, PB, Val.row]
    rintro r os ⟨rfl, rfl⟩ hos
    simp only [tt, seval, PB, Val.row]
    apply dDrawn_j1 2
    case h1 =>
     refine dDrawn.intro [50] (.take 1 (.br 0 (.br 2 (.take 3 (.br 4 .done .nobr)) .nobr) (.br 2 (.take 0 (.take 3 (.br 4 .done .nobr))) .nobr))) (by kernel_rfl) ?_
     simp only [tt, seval]
     all_goals repeat' first | refine brC ?_ ?_ | refine brC2 ?_ ?_
     all_goals
      refine CallQ.intro (l12As_d L hL hT s1 ha1) ?_ ?_ ?_
      ·decide
      ·simp only [tt, seval, PB, Val.row]
       try decide
      rintro r os ⟨rfl, rfl⟩ hos
      simp only [tt, seval, PB, Val.row]
     all_goals exact ⟨rfl, rfl, rfl⟩
    case h2 =>
     intro f' hj0
     try simp only [tt, seval, hj0]
     refine ⟨.ag (csOf (Item.mk false z0 (Expr.mk k1 p1 n1 v1 q1 m1 ks1 ss1) (asM L s1).1).row), [PB L (asM L s1).2], ⟨rfl, rfl⟩, endOk ?_⟩
     simp only [tt, seval, bae, PB, mLit, mCol, mKids, mUn, mBin, zExpr, zVal, z0, Expr.row_mk, Query.row_mk, List.flatMap_nil, List.flatMap_cons, List.append_nil, List.length_nil, List.length_cons, Val.row, Item.row_mk, hj0]
  ·simp only [tt, seval, g0, Bool.false_eq_true]
   have hsf : starN L s = false := by first | (rw [star_b, g0]; simp only [Bool.false_and, Bool.and_false]) | (rw [star_b, decide_eq_false g0]; simp only [Bool.false_and, Bool.and_false])
   rw [if_neg (by rw [hsf]; simp)] at h
   split at h
   ·cases h
   rename_i e s1 he
   injection h with h; injection h with h1 h2; subst h1 h2
   have ha1 := (ok 1 _ _ _ he).2.1 ha
   obtain ⟨k1, p1, n1, v1, q1, m1, ks1, ss1⟩ := e
   have c1 := hf1 _ _ _ he ha
   rw [Expr.row_mk] at c1
   refine CallQ.intro (c1) ?_ ?_ ?_
   ·decide
   ·simp only [tt, seval, PB, Val.row]
   rintro r os ⟨rfl, rfl⟩ hos
   simp only [tt, seval, PB, Val.row]
   apply dDrawn_j1 2
   case h1 =>
    refine dDrawn.intro [50] (.take 1 (.br 0 (.br 2 (.take 3 (.br 4 .done .nobr)) .nobr) (.br 2 (.take 0 (.take 3 (.br 4 .done .nobr))) .nobr))) (by kernel_rfl) ?_
    simp only [tt, seval]
    all_goals repeat' first | refine brC ?_ ?_ | refine brC2 ?_ ?_
    all_goals
     refine CallQ.intro (l12As_d L hL hT s1 ha1) ?_ ?_ ?_
     ·decide
     ·simp only [tt, seval, PB, Val.row]
      try decide
     rintro r os ⟨rfl, rfl⟩ hos
     simp only [tt, seval, PB, Val.row]
    all_goals exact ⟨rfl, rfl, rfl⟩
   case h2 =>
    intro f' hj0
    try simp only [tt, seval, hj0]
    refine ⟨.ag (csOf (Item.mk false z0 (Expr.mk k1 p1 n1 v1 q1 m1 ks1 ss1) (asM L s1).1).row), [PB L (asM L s1).2], ⟨rfl, rfl⟩, endOk ?_⟩
    simp only [tt, seval, bae, PB, mLit, mCol, mKids, mUn, mBin, zExpr, zVal, z0, Expr.row_mk, Query.row_mk, List.flatMap_nil, List.flatMap_cons, List.append_nil, List.length_nil, List.length_cons, Val.row, Item.row_mk, hj0]
 ·simp only [tt, seval, hK, Bool.false_eq_true]
  have hsf : starN L s = false := by rw [star_b, hK]; rfl
  rw [if_neg (by rw [hsf]; simp)] at h
  split at h
  ·cases h
  rename_i e s1 he
  injection h with h; injection h with h1 h2; subst h1 h2
  have ha1 := (ok 1 _ _ _ he).2.1 ha
  obtain ⟨k1, p1, n1, v1, q1, m1, ks1, ss1⟩ := e
  have c1 := hf1 _ _ _ he ha
  rw [Expr.row_mk] at c1
  refine CallQ.intro (c1) ?_ ?_ ?_
  ·decide
  ·simp only [tt, seval, PB, Val.row]
  rintro r os ⟨rfl, rfl⟩ hos
  simp only [tt, seval, PB, Val.row]
  apply dDrawn_j1 2
  case h1 =>
   refine dDrawn.intro [50] (.take 1 (.br 0 (.br 2 (.take 3 (.br 4 .done .nobr)) .nobr) (.br 2 (.take 0 (.take 3 (.br 4 .done .nobr))) .nobr))) (by kernel_rfl) ?_
   simp only [tt, seval]
   all_goals repeat' first | refine brC ?_ ?_ | refine brC2 ?_ ?_
   all_goals
    refine CallQ.intro (l12As_d L hL hT s1 ha1) ?_ ?_ ?_
    ·decide
    ·simp only [tt, seval, PB, Val.row]
     try decide
    rintro r os ⟨rfl, rfl⟩ hos
    simp only [tt, seval, PB, Val.row]
   all_goals exact ⟨rfl, rfl, rfl⟩
  case h2 =>
   intro f' hj0
   try simp only [tt, seval, hj0]
   refine ⟨.ag (csOf (Item.mk false z0 (Expr.mk k1 p1 n1 v1 q1 m1 ks1 ss1) (asM L s1).1).row), [PB L (asM L s1).2], ⟨rfl, rfl⟩, endOk ?_⟩
   simp only [tt, seval, bae, PB, mLit, mCol, mKids, mUn, mBin, zExpr, zVal, z0, Expr.row_mk, Query.row_mk, List.flatMap_nil, List.flatMap_cons, List.append_nil, List.length_nil, List.length_cons, Val.row, Item.row_mk, hj0]
theorem l12End_d (L : List Tok) (hL : L.length ≤ 1048576) (hT : ∀ t ∈ L, t.text.size ≤ 1048576) (s : PS) (ha : s.a ≤ L.length) : Cl Tryz.prog 40 [.c (.p 9000 0)] [PB L s] fun r os => r = vi (endM L s) ∧ os = [PB L s] := by
 refine cl_of_d follows_mixed false Tryz.func40 rfl (by kernel_rfl) ?_
 simp only [Tryz.f40, tt, seval]
 simp only [tt, seval, PB]
 cases hb : s.b with
 | true =>
  have e : endM L s = s.a := if_neg (by rw [hb]; simp)
  rw [e]
  refine dDrawn.intro [] (pln [0, 2, 4, 6, 8, 10, 12, 14, 16, 18, 20, 22, 24, 26, 28, 30, 32]) (by kernel_rfl) ?_
  simp only [tt, seval]
  exact ⟨_, _, ⟨rfl, rfl⟩, endOk (by simp only [tt, seval])⟩
 | false =>
  refine dDrawn.intro [] (pln [0, 2, 4, 6, 8, 10, 12, 14, 16, 18, 20, 22, 24, 26, 28, 30, 32]) (by kernel_rfl) ?_
  simp only [tt, seval]
  refine fun _ => And.intro (fun he => ?_) (fun he => ?_)
  ·have e : endM L s = -1 := if_pos ⟨hb, by omega⟩
   rw [e]
   exact ⟨_, _, ⟨rfl, rfl⟩, endOk (by simp only [tt, seval])⟩
  ·have e : endM L s = s.a := if_neg (by omega)
   rw [e]
   exact ⟨_, _, ⟨rfl, rfl⟩, endOk (by simp only [tt, seval])⟩
theorem mt_small {L : List Tok} (hL : L.length ≤ 1048576) (hT : ∀ t ∈ L, t.text.size ≤ 1048576) (s : PS) (k : Int) : (mText L k s).1.size ≤ 1048576 := by
 unfold mText
 split
 ·exact text_small hL hT s
 ·exact Nat.zero_le _
set_option maxHeartbeats 16000000 in
theorem l12Query_step (L : List Tok) (hL : L.length ≤ 1048576) (hT : ∀ t ∈ L, t.text.size ≤ 1048576) {f : Nat → PM Expr} (ok : ∀ lv, OkM (L := L) (f lv)) (hf1 : SpE L 39 [vi 1] (f 1)) : SpQ L 53 (stepQ L f) := by
 intro s x s' h ha
 unfold stepQ at h
 simp only at h
 refine cl_of_d follows_mixed false Tryz.func53 rfl (by kernel_rfl) ?_
 simp only [Tryz.f53, tt, seval]
 refine CallQ.intro (l12Key_d L hL hT s 1 (by omega) (by omega) ha) ?_ ?_ ?_
 ·decide
 ·simp (config := { maxSteps := 4000000 }) only [tt, seval, PB]
 rintro r os ⟨rfl, rfl⟩ hos
 simp (config := { maxSteps := 4000000 }) only [tt, seval, PB]
 refine CallQ.intro (l12Step_d L hL hT s (isKey L s 1) (fun h => isKey_lt h)) ?_ ?_ ?_
 ·decide
 ·simp (config := { maxSteps := 4000000 }) only [tt, seval, PB]
 rintro r os ⟨rfl, rfl⟩ hos
 simp (config := { maxSteps := 4000000 }) only [tt, seval, PB]
 have o1 : Ok L s (must (isKey L s 1) s) := Ok.must fun h => isKey_lt h
 have ha1 := o1.2.1 ha
 generalize must (isKey L s 1) s = u1 at *
 refine CallQ.intro (l12Maybe_d L hL hT u1 2 (by omega) (by omega) ha1) ?_ ?_ ?_
 ·decide
 ·simp (config := { maxSteps := 4000000 }) only [tt, seval, PB]
 rintro r os ⟨rfl, rfl⟩ hos
 simp (config := { maxSteps := 4000000 }) only [tt, seval, PB]
 have o2 : Ok L u1 (tkIf (isKey L u1 2) u1) := Ok.tkIf fun h => isKey_lt h
 have ha2 := o2.2.1 ha1
 generalize tkIf (isKey L u1 2) u1 = u2 at *
 generalize isKey L u1 2 = dist at *
 split at h
 ·cases h
 rename_i its u3 hits
 unfold itemsM at hits
 split at hits
 ·cases hits
 rename_i it1 v1 hit1
 have c1 := l12Item_step L hL hT ok hf1 _ _ _ hit1 ha2
 obtain ⟨star1, qual1, ⟨k1, p1, n1, w1, q1, m1, ks1, ss1⟩, as1⟩ := it1
 rw [Item.row_mk, Expr.row_mk] at c1
 have hav1 := (OkM.item ok _ _ _ hit1).2.1 ha2
 apply dDrawn_j3 0 2 3
 case h1 =>
  refine dDrawn.intro [16] (.take 0 (.take 2 (.br 1 (.br 3 (.br 4 (.br 5 (.take 6 (.br 7 .done .nobr)) .nobr) .nobr) .nobr) (.br 3 (.take 1 (.br 4 (.br 5 (.take 6 (.br 7 .done .nobr)) .nobr) .nobr)) .nobr)))) (by kernel_rfl) ?_
  simp (config := { maxSteps := 4000000 }) only [tt, seval]
  all_goals repeat' first | refine brC ?_ ?_ | refine brC2 ?_ ?_
  all_goals
   refine CallQ.intro (c1) ?_ ?_ ?_
   ·decide
   ·simp (config := { maxSteps := 4000000 }) only [tt, seval, PB, Val.row]
    try decide
   rintro r os ⟨rfl, rfl⟩ hos
   simp (config := { maxSteps := 4000000 }) only [tt, seval, PB, Val.row]
  all_goals repeat' first | refine brA ?_ ?_ | refine brA2 ?_ ?_ | refine brA3 ?_ ?_
  all_goals
   refine ⟨by kernel_rfl, ⟨by simp only [maxLen]; omega, by omega⟩, ?_⟩
   try simp (config := { maxSteps := 4000000 }) only [tt, seval]
  all_goals exact ⟨rfl, rfl, rfl, rfl, rfl⟩
 case h2 =>
  intro f' hj0 hj1 hj2
  try simp (config := { maxSteps := 4000000 }) only [tt, seval, hj0, hj1, hj2]
  refine dLoop.gh [.ren 18 29] ⟨by decide, by decide, ?_⟩
  refine dLoop0.intro (fun f' Lo p => ∃ (m : List Item) (v : PS) (n : Nat), sepM L (itemM L f) n m v = some (its, u3) ∧ v.a ≤ L.length ∧ m.length ≤ v.a + 1 ∧ Lo = [(9000, .str (PB L v)), (3, .str [.v (.bool dist), .s 29 (m).length, .v (.slice none 0 0), .v (.slice none 0 0), .v (.slice none 0 0), .v (.int .i64 (-1))]), (29, .arr 121 (m).length ((m).flatMap Item.row) none), (2, .str [.v (.bool false), .v (.slice none 0 0), .v (.slice none 0 0), .v (.slice none 0 0), .v (.slice none 0 0), .v (.int .i64 0)])] ∧ p = none) (fun _ Lo _ => L.length - atS Lo) [(9000, .str (PB L v1)), (3, .str [.v (.bool dist), .s 29 ([(Item.mk star1 qual1 (Expr.mk k1 p1 n1 w1 q1 m1 ks1 ss1) as1)]).length, .v (.slice none 0 0), .v (.slice none 0 0), .v (.slice none 0 0), .v (.int .i64 (-1))]), (29, .arr 121 ([(Item.mk star1 qual1 (Expr.mk k1 p1 n1 w1 q1 m1 ks1 ss1) as1)]).length (([(Item.mk star1 qual1 (Expr.mk k1 p1 n1 w1 q1 m1 ks1 ss1) as1)]).flatMap Item.row) none), (2, .str [.v (.bool false), .v (.slice none 0 0), .v (.slice none 0 0), .v (.slice none 0 0), .v (.slice none 0 0), .v (.int .i64 0)])] none ⟨by simp only [bae, PB, mLit, mCol, mKids, mUn, mBin, zExpr, zVal, z0, Expr.row_mk, Query.row_mk, List.flatMap_nil, List.flatMap_cons, List.append_nil, List.length_nil, List.length_cons, Item.row_mk, Val.row, List.cons_append, List.nil_append]; exact SubO.cons rfl (SubO.cons rfl (SubO.cons rfl (SubO.cons rfl (SubO.nil _)))), PoSub.none _, ?_⟩ ?_
  ·simp (config := { maxSteps := 4000000 }) only [tt, seval, hj0, hj1, hj2]
   exact ⟨[(Item.mk star1 qual1 (Expr.mk k1 p1 n1 w1 q1 m1 ks1 ss1) as1)], v1, L.length + 1, hits, hav1, by simp, rfl⟩
  ·rintro g' Lo p ⟨m, v, n, hm, hv, hml, rfl, rfl⟩
   try simp (config := { maxSteps := 4000000 }) only [tt, seval, hj0, hj1, hj2]
   refine CallQ.intro (l12SignC_d L hL hT v 44 hv) ?_ ?_ ?_
   ·decide
   ·simp (config := { maxSteps := 4000000 }) only [tt, seval, PB, hj0, hj1, hj2]
   rintro r os ⟨rfl, rfl⟩ hos
   simp (config := { maxSteps := 4000000 }) only [tt, seval, PB, hj0, hj1, hj2]
   cases n with
   | zero => cases hm
   | succ n =>
   rw [sepM] at hm
   cases c44 : isSg L v 44 with
   | true =>
    rw [if_pos c44] at hm
    split at hm
    ·cases hm
    rename_i z w hz
    obtain ⟨hb, hlt⟩ := isSg_lt c44
    have hav := adv_le (L := L) (isSg_lt c44)
    have o3 := OkM.item ok _ _ _ hz
    have o3a : v.a + 1 ≤ w.a := o3.1
    have hw := o3.2.1 hav
    have c2 := l12Item_step L hL hT ok hf1 _ _ _ hz hav
    obtain ⟨star2, qual2, ⟨k2, p2, n2, w2, q2, m2, ks2, ss2⟩, as2⟩ := z
    rw [Item.row_mk, Expr.row_mk] at c2
    simp (config := { maxSteps := 4000000 }) only [tt, seval, hj0, hj1, hj2]
    refine CallQ.intro (l12Step_d L hL hT v true (fun _ => isSg_lt c44)) ?_ ?_ ?_
    ·decide
    ·simp (config := { maxSteps := 4000000 }) only [tt, seval, PB, muT, hj0, hj1, hj2]
    rintro r os ⟨rfl, rfl⟩ hos
    simp (config := { maxSteps := 4000000 }) only [tt, seval, PB, muT, hj0, hj1, hj2]
    apply dDrawn_j1 3
    case h1 =>
     refine dDrawn.intro [27] (.take 0 (.take 2 (.br 1 (.br 3 (.br 4 (.br 5 (.take 6 (.br 7 .done .nobr)) .nobr) .nobr) .nobr) (.br 3 (.take 1 (.br 4 (.br 5 (.take 6 (.br 7 .done .nobr)) .nobr) .nobr)) .nobr)))) (by kernel_rfl) ?_
     simp (config := { maxSteps := 4000000 }) only [tt, seval]
     all_goals try simp (config := { maxSteps := 4000000 }) only [tt, seval, hj0, hj1, hj2]
     all_goals repeat' first | refine brC ?_ ?_ | refine brC2 ?_ ?_
     all_goals
      refine CallQ.intro (c2) ?_ ?_ ?_
      ·decide
      ·simp (config := { maxSteps := 4000000 }) only [tt, seval, PB, Val.row, hj0, hj1, hj2]
       try decide
      rintro r os ⟨rfl, rfl⟩ hos
      simp (config := { maxSteps := 4000000 }) only [tt, seval, PB, Val.row, hj0, hj1, hj2]
     all_goals repeat' first | refine brA ?_ ?_ | refine brA2 ?_ ?_ | refine brA3 ?_ ?_
     all_goals
      refine ⟨by kernel_rfl, ⟨by simp only [maxLen]; omega, by omega⟩, ?_⟩
      try simp (config := { maxSteps := 4000000 }) only [tt, seval]
     all_goals exact ⟨rfl, rfl, rfl⟩
    case h2 =>
     intro f' hk0
     try simp (config := { maxSteps := 4000000 }) only [tt, seval, hk0]
     refine ⟨[(9000, .str (PB L w)), (3, .str [.v (.bool dist), .s 29 ((m ++ [(Item.mk star2 qual2 (Expr.mk k2 p2 n2 w2 q2 m2 ks2 ss2) as2)])).length, .v (.slice none 0 0), .v (.slice none 0 0), .v (.slice none 0 0), .v (.int .i64 (-1))]), (29, .arr 121 ((m ++ [(Item.mk star2 qual2 (Expr.mk k2 p2 n2 w2 q2 m2 ks2 ss2) as2)])).length (((m ++ [(Item.mk star2 qual2 (Expr.mk k2 p2 n2 w2 q2 m2 ks2 ss2) as2)])).flatMap Item.row) none), (2, .str [.v (.bool false), .v (.slice none 0 0), .v (.slice none 0 0), .v (.slice none 0 0), .v (.slice none 0 0), .v (.int .i64 0)])], none, by simp only [bae, PB, mLit, mCol, mKids, mUn, mBin, zExpr, zVal, z0, Expr.row_mk, Query.row_mk, List.flatMap_nil, List.flatMap_cons, List.append_nil, List.length_nil, List.length_cons, Item.row_mk, Val.row, List.cons_append, List.nil_append, List.flatMap_append, List.length_append]; exact SubO.cons rfl (SubO.cons rfl (SubO.cons rfl (SubO.cons rfl (SubO.nil _)))), PoSub.none _, ⟨m ++ [(Item.mk star2 qual2 (Expr.mk k2 p2 n2 w2 q2 m2 ks2 ss2) as2)], w, n, hm, hw, by simp; omega, rfl, rfl⟩, ?_⟩
     show L.length - ((w.a : Int)).toNat < L.length - ((v.a : Int)).toNat
     omega
   | false =>
    rw [if_neg (by rw [c44]; simp)] at hm
    injection hm with hm; injection hm with e1 e2; subst e1 e2
    simp (config := { maxSteps := 4000000 }) only [tt, seval, Bool.false_eq_true, hj0, hj1, hj2]
    refine CallQ.intro (l12Key_d L hL hT v 3 (by omega) (by omega) hv) ?_ ?_ ?_
    ·decide
    ·simp (config := { maxSteps := 4000000 }) only [tt, seval, PB, hj0, hj1, hj2]
    rintro r os ⟨rfl, rfl⟩ hos
    simp (config := { maxSteps := 4000000 }) only [tt, seval, PB, hj0, hj1, hj2]
    refine CallQ.intro (l12Step_d L hL hT v (isKey L v 3) (fun h => isKey_lt h)) ?_ ?_ ?_
    ·decide
    ·simp (config := { maxSteps := 4000000 }) only [tt, seval, PB, hj0, hj1, hj2]
    rintro r os ⟨rfl, rfl⟩ hos
    simp (config := { maxSteps := 4000000 }) only [tt, seval, PB, hj0, hj1, hj2]
    have o4 : Ok L v (must (isKey L v 3) v) := Ok.must fun h => isKey_lt h
    have ha4 := o4.2.1 hv
    generalize must (isKey L v 3) v = u4 at *
    have c3 := l12Source_d L hL hT u4 ha4
    have ha5 := (Ok.sourceM (L := L) u4).2.1 ha4
    generalize (sourceM L u4).2 = v5 at *
    generalize (sourceM L u4).1 = sr1 at *
    obtain ⟨tb1, sa1, on1⟩ := sr1
    rw [Source.row_mk] at c3
    apply dDrawn_j3 0 2 3
    case h1 =>
     refine dDrawn.intro [38] (.take 0 (.take 2 (.br 1 (.br 3 (.br 4 (.br 5 (.take 6 (.br 7 .done .nobr)) .nobr) .nobr) .nobr) (.br 3 (.take 1 (.br 4 (.br 5 (.take 6 (.br 7 .done .nobr)) .nobr) .nobr)) .nobr)))) (by kernel_rfl) ?_
     simp (config := { maxSteps := 4000000 }) only [tt, seval]
     all_goals try simp (config := { maxSteps := 4000000 }) only [tt, seval, hj0, hj1, hj2]
     all_goals repeat' first | refine brC ?_ ?_ | refine brC2 ?_ ?_
     all_goals
      refine CallQ.intro (c3) ?_ ?_ ?_
      ·decide
      ·simp (config := { maxSteps := 4000000 }) only [tt, seval, PB, Val.row, hj0, hj1, hj2]
       try decide
      rintro r os ⟨rfl, rfl⟩ hos
      simp (config := { maxSteps := 4000000 }) only [tt, seval, PB, Val.row, hj0, hj1, hj2]
     all_goals repeat' first | refine brA ?_ ?_ | refine brA2 ?_ ?_ | refine brA3 ?_ ?_
     all_goals
      refine ⟨by kernel_rfl, ⟨by simp only [maxLen]; omega, by omega⟩, ?_⟩
      try simp (config := { maxSteps := 4000000 }) only [tt, seval]
     all_goals exact ⟨rfl, rfl, rfl, rfl, rfl⟩
    case h2 =>
     intro f' hi0 hi1 hi2
     try simp (config := { maxSteps := 4000000 }) only [tt, seval, hi0, hi1, hi2]
     split at h
     ·cases h
     rename_i frs s4 hfrs
     refine dLoop.gh [.ren 40 67] ⟨by decide, by decide, ?_⟩
     refine dLoop0.intro (fun f' Lo p => ∃ (l : List Source) (v : PS) (n : Nat), sourcesM L f n l v = some (frs, s4) ∧ v.a ≤ L.length ∧ l.length ≤ v.a + 1 ∧ Lo = [(9000, .str (PB L v)), (3, .str [.v (.bool dist), .s 29 m.length, .s 67 (l).length, .v (.slice none 0 0), .v (.slice none 0 0), .v (.int .i64 (-1))]), (29, .arr 121 m.length (m.flatMap Item.row) none), (67, .arr 124 (l).length ((l).flatMap Source.row) none), (2, .str [.v (.bool false), .v (.slice none 0 0), .v (.slice none 0 0), .v (.slice none 0 0), .v (.slice none 0 0), .v (.int .i64 0)])] ∧ p = none) (fun _ Lo _ => L.length - atS Lo) [(9000, .str (PB L v5)), (3, .str [.v (.bool dist), .s 29 m.length, .s 67 ([(Source.mk tb1 sa1 on1)]).length, .v (.slice none 0 0), .v (.slice none 0 0), .v (.int .i64 (-1))]), (29, .arr 121 m.length (m.flatMap Item.row) none), (67, .arr 124 ([(Source.mk tb1 sa1 on1)]).length (([(Source.mk tb1 sa1 on1)]).flatMap Source.row) none), (2, .str [.v (.bool false), .v (.slice none 0 0), .v (.slice none 0 0), .v (.slice none 0 0), .v (.slice none 0 0), .v (.int .i64 0)])] none ⟨by simp only [bae, PB, mLit, mCol, mKids, mUn, mBin, zExpr, zVal, z0, Expr.row_mk, Query.row_mk, List.flatMap_nil, List.flatMap_cons, List.append_nil, List.length_nil, List.length_cons, Source.row_mk, Val.row, List.cons_append, List.nil_append]; exact SubO.cons rfl (SubO.cons rfl (SubO.cons rfl (SubO.cons rfl (SubO.cons rfl (SubO.nil _))))), PoSub.none _, ?_⟩ ?_
     ·simp (config := { maxSteps := 4000000 }) only [tt, seval, hi0, hi1, hi2]
      exact ⟨[(Source.mk tb1 sa1 on1)], v5, L.length + 1, hfrs, ha5, by simp, rfl⟩
     ·rintro g2 Lo p ⟨l, v6, n2, hm2, hv6, hml2, rfl, rfl⟩
      try simp (config := { maxSteps := 4000000 }) only [tt, seval, hi0, hi1, hi2]
      refine CallQ.intro (l12SignC_d L hL hT v6 44 hv6) ?_ ?_ ?_
      ·decide
      ·simp (config := { maxSteps := 4000000 }) only [tt, seval, PB, hi0, hi1, hi2]
      rintro r os ⟨rfl, rfl⟩ hos
      simp (config := { maxSteps := 4000000 }) only [tt, seval, PB, hi0, hi1, hi2]
      cases n2 with
      | zero => cases hm2
      | succ n2 =>
      rw [sourcesM] at hm2
      cases c44 : isSg L v6 44 with
      | true =>
       have k4 : isKey L v6 4 = false := by
        cases e : isKey L v6 4 with
        | false => rfl
        | true => have := key_not_sg (c := 44) e; rw [c44] at this; cases this
       rw [if_pos c44] at hm2
       have hav := adv_le (L := L) (isSg_lt c44)
       have hlt := (isSg_lt c44).2
       have c4 := l12Source_d L hL hT (adv v6) hav
       have o6 := Ok.sourceM (L := L) (adv v6)
       have o6a : v6.a + 1 ≤ (sourceM L (adv v6)).2.a := o6.1
       have hw := o6.2.1 hav
       generalize (sourceM L (adv v6)).2 = w6 at *
       generalize (sourceM L (adv v6)).1 = sr2 at *
       obtain ⟨tb2, sa2, on2⟩ := sr2
       rw [Source.row_mk] at c4
       refine And.intro (fun _ => ?_) (fun hx => by cases hx)
       simp (config := { maxSteps := 4000000 }) only [tt, seval, hi0, hi1, hi2]
       refine CallQ.intro (l12Key_d L hL hT v6 4 (by omega) (by omega) hv6) ?_ ?_ ?_
       ·decide
       ·simp (config := { maxSteps := 4000000 }) only [tt, seval, PB, hi0, hi1, hi2]
       rintro r os ⟨rfl, rfl⟩ hos
       simp (config := { maxSteps := 4000000 }) only [tt, seval, PB, hi0, hi1, hi2]
       simp (config := { maxSteps := 4000000 }) only [tt, seval, k4]
       refine CallQ.intro (l12Step_d L hL hT v6 true (fun _ => isSg_lt c44)) ?_ ?_ ?_
       ·decide
       ·simp (config := { maxSteps := 4000000 }) only [tt, seval, PB, muT, hi0, hi1, hi2]
       rintro r os ⟨rfl, rfl⟩ hos
       simp (config := { maxSteps := 4000000 }) only [tt, seval, PB, muT, hi0, hi1, hi2]
       refine CallQ.intro (c4) ?_ ?_ ?_
       ·decide
       ·simp (config := { maxSteps := 4000000 }) only [tt, seval, PB, hi0, hi1, hi2, Val.row]
       rintro r os ⟨rfl, rfl⟩ hos
       simp (config := { maxSteps := 4000000 }) only [tt, seval, PB, hi0, hi1, hi2, Val.row]
       refine ⟨by kernel_rfl, ⟨by simp only [maxLen]; omega, by omega⟩, ?_⟩
       refine ⟨[(9000, .str (PB L w6)), (3, .str [.v (.bool dist), .s 29 m.length, .s 67 ((l ++ [Source.mk tb2 sa2 on2])).length, .v (.slice none 0 0), .v (.slice none 0 0), .v (.int .i64 (-1))]), (29, .arr 121 m.length (m.flatMap Item.row) none), (67, .arr 124 ((l ++ [Source.mk tb2 sa2 on2])).length (((l ++ [Source.mk tb2 sa2 on2])).flatMap Source.row) none), (2, .str [.v (.bool false), .v (.slice none 0 0), .v (.slice none 0 0), .v (.slice none 0 0), .v (.slice none 0 0), .v (.int .i64 0)])], none, by simp only [bae, PB, mLit, mCol, mKids, mUn, mBin, zExpr, zVal, z0, Expr.row_mk, Query.row_mk, List.flatMap_nil, List.flatMap_cons, List.append_nil, List.length_nil, List.length_cons, Source.row_mk, Val.row, List.cons_append, List.nil_append, List.flatMap_append, List.length_append]; exact SubO.cons rfl (SubO.cons rfl (SubO.cons rfl (SubO.cons rfl (SubO.cons rfl (SubO.nil _))))), PoSub.none _, ⟨l ++ [Source.mk tb2 sa2 on2], w6, n2, hm2, hw, by simp; omega, rfl, rfl⟩, ?_⟩
       show L.length - ((w6.a : Int)).toNat < L.length - ((v6.a : Int)).toNat
       omega
      | false =>
       rw [if_neg (by rw [c44]; simp)] at hm2
       refine And.intro (fun hx => by cases hx) (fun _ => ?_)
       simp (config := { maxSteps := 4000000 }) only [tt, seval, hi0, hi1, hi2]
       refine CallQ.intro (l12Key_d L hL hT v6 4 (by omega) (by omega) hv6) ?_ ?_ ?_
       ·decide
       ·simp (config := { maxSteps := 4000000 }) only [tt, seval, PB, hi0, hi1, hi2]
       rintro r os ⟨rfl, rfl⟩ hos
       simp (config := { maxSteps := 4000000 }) only [tt, seval, PB, hi0, hi1, hi2]
       cases k4 : isKey L v6 4 with
       | true =>
        rw [if_pos k4] at hm2
        simp only at hm2
        split at hm2
        ·cases hm2
        rename_i e7 s7 he7
        have hav := adv_le (L := L) (isKey_lt k4)
        have hlt := (isKey_lt k4).2
        have c4 := l12Source_d L hL hT (adv v6) hav
        have o6 := Ok.sourceM (L := L) (adv v6)
        have o6a : v6.a + 1 ≤ (sourceM L (adv v6)).2.a := o6.1
        have hw := o6.2.1 hav
        generalize (sourceM L (adv v6)).2 = w6 at *
        generalize (sourceM L (adv v6)).1 = sr2 at *
        obtain ⟨tb2, sa2, on2⟩ := sr2
        rw [Source.row_mk] at c4
        simp (config := { maxSteps := 4000000 }) only [tt, seval, hi0, hi1, hi2]
        refine CallQ.intro (l12Key_d L hL hT v6 4 (by omega) (by omega) hv6) ?_ ?_ ?_
        ·decide
        ·simp (config := { maxSteps := 4000000 }) only [tt, seval, PB, hi0, hi1, hi2]
        rintro r os ⟨rfl, rfl⟩ hos
        simp (config := { maxSteps := 4000000 }) only [tt, seval, PB, hi0, hi1, hi2]
        simp (config := { maxSteps := 4000000 }) only [tt, seval, k4]
        refine CallQ.intro (l12Step_d L hL hT v6 true (fun _ => isKey_lt k4)) ?_ ?_ ?_
        ·decide
        ·simp (config := { maxSteps := 4000000 }) only [tt, seval, PB, muT, hi0, hi1, hi2]
        rintro r os ⟨rfl, rfl⟩ hos
        simp (config := { maxSteps := 4000000 }) only [tt, seval, PB, muT, hi0, hi1, hi2]
        refine CallQ.intro (c4) ?_ ?_ ?_
        ·decide
        ·simp (config := { maxSteps := 4000000 }) only [tt, seval, PB, hi0, hi1, hi2, Val.row]
        rintro r os ⟨rfl, rfl⟩ hos
        simp (config := { maxSteps := 4000000 }) only [tt, seval, PB, hi0, hi1, hi2, Val.row]
        refine CallQ.intro (l12Key_d L hL hT w6 5 (by omega) (by omega) hw) ?_ ?_ ?_
        ·decide
        ·simp (config := { maxSteps := 4000000 }) only [tt, seval, PB, hi0, hi1, hi2]
        rintro r os ⟨rfl, rfl⟩ hos
        simp (config := { maxSteps := 4000000 }) only [tt, seval, PB, hi0, hi1, hi2]
        refine CallQ.intro (l12Step_d L hL hT w6 (isKey L w6 5) (fun h => isKey_lt h)) ?_ ?_ ?_
        ·decide
        ·simp (config := { maxSteps := 4000000 }) only [tt, seval, PB, hi0, hi1, hi2]
        rintro r os ⟨rfl, rfl⟩ hos
        simp (config := { maxSteps := 4000000 }) only [tt, seval, PB, hi0, hi1, hi2]
        have o7 : Ok L w6 (must (isKey L w6 5) w6) := Ok.must fun h => isKey_lt h
        have o7a := o7.1
        have hw7 := o7.2.1 hw
        generalize must (isKey L w6 5) w6 = w7 at *
        have o8 := ok 1 _ _ _ he7
        have o8a := o8.1
        have hs7 := o8.2.1 hw7
        obtain ⟨k7, p7, n7, x7, q7, m7, ks7, ss7⟩ := e7
        have c7 := hf1 _ _ _ he7 hw7
        rw [Expr.row_mk] at c7
        refine CallQ.intro (c7) ?_ ?_ ?_
        ·decide
        ·simp (config := { maxSteps := 4000000 }) only [tt, seval, PB, hi0, hi1, hi2, Val.row]
        rintro r os ⟨rfl, rfl⟩ hos
        simp (config := { maxSteps := 4000000 }) only [tt, seval, PB, hi0, hi1, hi2, Val.row]
        refine ⟨by kernel_rfl, ⟨by simp only [maxLen]; omega, by omega⟩, ?_⟩
        refine ⟨[(9000, .str (PB L s7)), (3, .str [.v (.bool dist), .s 29 m.length, .s 67 ((l ++ [Source.mk tb2 sa2 [Expr.mk k7 p7 n7 x7 q7 m7 ks7 ss7]])).length, .v (.slice none 0 0), .v (.slice none 0 0), .v (.int .i64 (-1))]), (29, .arr 121 m.length (m.flatMap Item.row) none), (67, .arr 124 ((l ++ [Source.mk tb2 sa2 [Expr.mk k7 p7 n7 x7 q7 m7 ks7 ss7]])).length (((l ++ [Source.mk tb2 sa2 [Expr.mk k7 p7 n7 x7 q7 m7 ks7 ss7]])).flatMap Source.row) none), (2, .str [.v (.bool false), .v (.slice none 0 0), .v (.slice none 0 0), .v (.slice none 0 0), .v (.slice none 0 0), .v (.int .i64 0)])], none, by simp only [bae, PB, mLit, mCol, mKids, mUn, mBin, zExpr, zVal, z0, Expr.row_mk, Query.row_mk, List.flatMap_nil, List.flatMap_cons, List.append_nil, List.length_nil, List.length_cons, Source.row_mk, Val.row, List.cons_append, List.nil_append, List.flatMap_append, List.length_append]; exact SubO.cons rfl (SubO.cons rfl (SubO.cons rfl (SubO.cons rfl (SubO.cons rfl (SubO.nil _))))), PoSub.none _, ⟨l ++ [Source.mk tb2 sa2 [Expr.mk k7 p7 n7 x7 q7 m7 ks7 ss7]], s7, n2, hm2, hs7, by simp; omega, rfl, rfl⟩, ?_⟩
        show L.length - ((s7.a : Int)).toNat < L.length - ((v6.a : Int)).toNat
        omega
       | false =>
        rw [if_neg (by rw [k4]; simp)] at hm2
        injection hm2 with hm2; injection hm2 with e1 e2; subst e1 e2
        simp (config := { maxSteps := 4000000 }) only [tt, seval, Bool.false_eq_true, hi0, hi1, hi2]
        split at h
        ·cases h
        rename_i wh s5 hwh
        have hs5 := (OkM.wher ok _ _ _ hwh).2.1 hv6
        have cw := l12Where_step L hL hT hf1 _ _ _ hwh hv6
        refine CallQ.intro (cw) ?_ ?_ ?_
        ·decide
        ·simp (config := { maxSteps := 4000000 }) only [tt, seval, PB, hi0, hi1, hi2]
        rintro r os ⟨rfl, rfl⟩ hos
        simp (config := { maxSteps := 4000000 }) only [tt, seval, PB, hi0, hi1, hi2]
        refine CallQ.intro (l12Maybe_d L hL hT s5 7 (by omega) (by omega) hs5) ?_ ?_ ?_
        ·decide
        ·simp (config := { maxSteps := 4000000 }) only [tt, seval, PB, hi0, hi1, hi2]
        rintro r os ⟨rfl, rfl⟩ hos
        simp (config := { maxSteps := 4000000 }) only [tt, seval, PB, hi0, hi1, hi2]
        split at h
        ·cases h
        rename_i ord s6 hord
        unfold orderM at hord
        cases c7 : isKey L s5 7 with
        | false =>
         rw [if_neg (by rw [c7]; simp)] at hord
         injection hord with hord; injection hord with e1 e2; subst e1 e2
         simp (config := { maxSteps := 4000000 }) only [tt, seval, tkT, tkF, muT, muF, Bool.false_eq_true, hi0, hi1, hi2]
         refine CallQ.intro (l12Maybe_d L hL hT s5 11 (by omega) (by omega) hs5) ?_ ?_ ?_
         ·decide
         ·simp (config := { maxSteps := 4000000 }) only [tt, seval, PB, hi0, hi1, hi2]
         rintro r os ⟨rfl, rfl⟩ hos
         simp (config := { maxSteps := 4000000 }) only [tt, seval, PB, hi0, hi1, hi2]
         cases c11 : isKey L s5 11 with
         | true =>
          have hlim : limitM L s5 = (numV (mText L 3 (adv s5)).1, (mText L 3 (adv s5)).2) := by rw [limitM, if_pos c11]; rfl
          rw [hlim] at h
          injection h with h; injection h with h1 h2; subst h1 h2
          have hsz := mt_small hL hT (adv s5) 3
          simp (config := { maxSteps := 4000000 }) only [tt, seval, tkT, tkF, muT, muF, hi0, hi1, hi2]
          refine CallQ.intro (l12Text_d L hL hT (adv s5) 3 (by omega) (adv_le (isKey_lt c11))) ?_ ?_ ?_
          ·decide
          ·simp (config := { maxSteps := 4000000 }) only [tt, seval, PB, hi0, hi1, hi2]
          rintro r os ⟨rfl, rfl⟩ hos
          simp (config := { maxSteps := 4000000 }) only [tt, seval, PB, hi0, hi1, hi2]
          generalize (mText L 3 (adv s5)).1 = xn at *
          generalize (mText L 3 (adv s5)).2 = sn at *
          refine call0 (Number_d xn hsz) ?_ ?_ ?_
          ·decide
          ·simp (config := { maxSteps := 4000000 }) only [tt, seval, numS, hi0, hi1, hi2]
          rintro r rfl
          simp (config := { maxSteps := 4000000 }) only [tt, seval, numS, hi0, hi1, hi2]
          refine ⟨.ag (csOf (Query.mk dist m l wh ([] : List SortKey) (numV xn)).row), [PB L (sn)], ⟨rfl, rfl⟩, endOk ?_⟩
          simp (config := { maxSteps := 4000000 }) only [tt, seval, bae, PB, mLit, mCol, mKids, mUn, mBin, zExpr, zVal, z0, Expr.row_mk, Query.row_mk, List.flatMap_nil, List.flatMap_cons, List.append_nil, List.length_nil, List.length_cons, Val.row, PB, hi0, hi1, hi2]
         | false =>
          have hlim : limitM L s5 = (-1, s5) := by rw [limitM, if_neg (by rw [c11]; simp)]
          rw [hlim] at h
          injection h with h; injection h with h1 h2; subst h1 h2
          simp (config := { maxSteps := 4000000 }) only [tt, seval, tkT, tkF, muT, muF, Bool.false_eq_true, hi0, hi1, hi2]
          refine ⟨.ag (csOf (Query.mk dist m l wh ([] : List SortKey) (-1)).row), [PB L (s5)], ⟨rfl, rfl⟩, endOk ?_⟩
          simp (config := { maxSteps := 4000000 }) only [tt, seval, bae, PB, mLit, mCol, mKids, mUn, mBin, zExpr, zVal, z0, Expr.row_mk, Query.row_mk, List.flatMap_nil, List.flatMap_cons, List.append_nil, List.length_nil, List.length_cons, Val.row, PB, hi0, hi1, hi2]
        | true =>
         rw [if_pos c7] at hord
         simp only at hord
         split at hord
         ·cases hord
         rename_i z1 y1 hz1
         simp (config := { maxSteps := 4000000 }) only [tt, seval, tkT, tkF, muT, muF, hi0, hi1, hi2]
         have hav5 := adv_le (L := L) (isKey_lt c7)
         have hlt5 := (isKey_lt c7).2
         refine CallQ.intro (l12Key_d L hL hT (adv s5) 8 (by omega) (by omega) hav5) ?_ ?_ ?_
         ·decide
         ·simp (config := { maxSteps := 4000000 }) only [tt, seval, PB, hi0, hi1, hi2]
         rintro r os ⟨rfl, rfl⟩ hos
         simp (config := { maxSteps := 4000000 }) only [tt, seval, PB, hi0, hi1, hi2]
         refine CallQ.intro (l12Step_d L hL hT (adv s5) (isKey L (adv s5) 8) (fun h => isKey_lt h)) ?_ ?_ ?_
         ·decide
         ·simp (config := { maxSteps := 4000000 }) only [tt, seval, PB, hi0, hi1, hi2]
         rintro r os ⟨rfl, rfl⟩ hos
         simp (config := { maxSteps := 4000000 }) only [tt, seval, PB, hi0, hi1, hi2]
         have o9 : Ok L (adv s5) (must (isKey L (adv s5) 8) (adv s5)) := Ok.must fun h => isKey_lt h
         have hu9 := o9.2.1 hav5
         generalize must (isKey L (adv s5) 8) (adv s5) = u9 at *
         have c9 := l12Sort_step L hL hT ok hf1 _ _ _ hz1 hu9
         have hy1 := (OkM.sort ok _ _ _ hz1).2.1 hu9
         obtain ⟨⟨k9, p9, n9, x9, q9, m9, ks9, ss9⟩, de9⟩ := z1
         rw [SortKey.row_mk, Expr.row_mk] at c9
         apply dDrawn_j3 0 2 3
         case h1 =>
          refine dDrawn.intro [81] (.take 0 (.take 2 (.br 1 (.br 3 (.br 4 (.br 5 (.take 6 (.br 7 .done .nobr)) .nobr) .nobr) .nobr) (.br 3 (.take 1 (.br 4 (.br 5 (.take 6 (.br 7 .done .nobr)) .nobr) .nobr)) .nobr)))) (by kernel_rfl) ?_
          simp (config := { maxSteps := 4000000 }) only [tt, seval]
          all_goals try simp (config := { maxSteps := 4000000 }) only [tt, seval, hi0, hi1, hi2]
          all_goals repeat' first | refine brC ?_ ?_ | refine brC2 ?_ ?_
          all_goals
           refine CallQ.intro (c9) ?_ ?_ ?_
           ·decide
           ·simp (config := { maxSteps := 4000000 }) only [tt, seval, PB, Val.row, hi0, hi1, hi2]
            try decide
           rintro r os ⟨rfl, rfl⟩ hos
           simp (config := { maxSteps := 4000000 }) only [tt, seval, PB, Val.row, hi0, hi1, hi2]
          all_goals repeat' first | refine brA ?_ ?_ | refine brA2 ?_ ?_ | refine brA3 ?_ ?_
          all_goals
           refine ⟨by kernel_rfl, ⟨by simp only [maxLen]; omega, by omega⟩, ?_⟩
           try simp (config := { maxSteps := 4000000 }) only [tt, seval]
          all_goals exact ⟨rfl, rfl, rfl, rfl, rfl⟩
         case h2 =>
          intro f' hl0 hl1 hl2
          try simp (config := { maxSteps := 4000000 }) only [tt, seval, hl0, hl1, hl2]
          refine dLoop.gh [.ren 83 94] ⟨by decide, by decide, ?_⟩
          refine dLoop0.intro (fun f' Lo p => ∃ (l9 : List SortKey) (v9 : PS) (n9' : Nat), sepM L (sortM L f) n9' l9 v9 = some (ord, s6) ∧ v9.a ≤ L.length ∧ l9.length ≤ v9.a + 1 ∧ Lo = [(9000, .str (PB L v9)), (3, .str [.v (.bool dist), .s 29 m.length, .s 67 l.length, .sl wh.length (wh.flatMap Expr.row) none, .s 94 (l9).length, .v (.int .i64 (-1))]), (29, .arr 121 m.length (m.flatMap Item.row) none), (67, .arr 124 l.length (l.flatMap Source.row) none), (94, .arr 128 (l9).length ((l9).flatMap SortKey.row) none), (2, .str [.v (.bool false), .v (.slice none 0 0), .v (.slice none 0 0), .v (.slice none 0 0), .v (.slice none 0 0), .v (.int .i64 0)])] ∧ p = none) (fun _ Lo _ => L.length - atS Lo) [(9000, .str (PB L y1)), (3, .str [.v (.bool dist), .s 29 m.length, .s 67 l.length, .sl wh.length (wh.flatMap Expr.row) none, .s 94 ([(SortKey.mk (Expr.mk k9 p9 n9 x9 q9 m9 ks9 ss9) de9)]).length, .v (.int .i64 (-1))]), (29, .arr 121 m.length (m.flatMap Item.row) none), (67, .arr 124 l.length (l.flatMap Source.row) none), (94, .arr 128 ([(SortKey.mk (Expr.mk k9 p9 n9 x9 q9 m9 ks9 ss9) de9)]).length (([(SortKey.mk (Expr.mk k9 p9 n9 x9 q9 m9 ks9 ss9) de9)]).flatMap SortKey.row) none), (2, .str [.v (.bool false), .v (.slice none 0 0), .v (.slice none 0 0), .v (.slice none 0 0), .v (.slice none 0 0), .v (.int .i64 0)])] none ⟨by simp only [bae, PB, mLit, mCol, mKids, mUn, mBin, zExpr, zVal, z0, Expr.row_mk, Query.row_mk, List.flatMap_nil, List.flatMap_cons, List.append_nil, List.length_nil, List.length_cons, SortKey.row_mk, Val.row, List.cons_append, List.nil_append]; exact SubO.cons rfl (SubO.cons rfl (SubO.cons rfl (SubO.cons rfl (SubO.cons rfl (SubO.cons rfl (SubO.nil _)))))), PoSub.none _, ?_⟩ ?_
          ·simp (config := { maxSteps := 4000000 }) only [tt, seval, hl0, hl1, hl2]
           exact ⟨[(SortKey.mk (Expr.mk k9 p9 n9 x9 q9 m9 ks9 ss9) de9)], y1, L.length + 1, hord, hy1, by simp, rfl⟩
          ·rintro g3 Lo p ⟨l9, v9, n9', hm9, hv9, hml9, rfl, rfl⟩
           try simp (config := { maxSteps := 4000000 }) only [tt, seval, hl0, hl1, hl2]
           refine CallQ.intro (l12SignC_d L hL hT v9 44 hv9) ?_ ?_ ?_
           ·decide
           ·simp (config := { maxSteps := 4000000 }) only [tt, seval, PB, hl0, hl1, hl2]
           rintro r os ⟨rfl, rfl⟩ hos
           simp (config := { maxSteps := 4000000 }) only [tt, seval, PB, hl0, hl1, hl2]
           cases n9' with
           | zero => cases hm9
           | succ n9' =>
           rw [sepM] at hm9
           cases c44 : isSg L v9 44 with
           | true =>
            rw [if_pos c44] at hm9
            split at hm9
            ·cases hm9
            rename_i za wa hza
            obtain ⟨hb9, hlt9⟩ := isSg_lt c44
            have hav9 := adv_le (L := L) (isSg_lt c44)
            have oa := OkM.sort ok _ _ _ hza
            have oaa : v9.a + 1 ≤ wa.a := oa.1
            have hwa := oa.2.1 hav9
            have ca := l12Sort_step L hL hT ok hf1 _ _ _ hza hav9
            obtain ⟨⟨ka, pa, na, xa, qa, ma, ksa, ssa⟩, dea⟩ := za
            rw [SortKey.row_mk, Expr.row_mk] at ca
            simp (config := { maxSteps := 4000000 }) only [tt, seval, hl0, hl1, hl2]
            refine CallQ.intro (l12Step_d L hL hT v9 true (fun _ => isSg_lt c44)) ?_ ?_ ?_
            ·decide
            ·simp (config := { maxSteps := 4000000 }) only [tt, seval, PB, muT, hl0, hl1, hl2]
            rintro r os ⟨rfl, rfl⟩ hos
            simp (config := { maxSteps := 4000000 }) only [tt, seval, PB, muT, hl0, hl1, hl2]
            apply dDrawn_j1 3
            case h1 =>
             refine dDrawn.intro [92] (.take 0 (.take 2 (.br 1 (.br 3 (.br 4 (.br 5 (.take 6 (.br 7 .done .nobr)) .nobr) .nobr) .nobr) (.br 3 (.take 1 (.br 4 (.br 5 (.take 6 (.br 7 .done .nobr)) .nobr) .nobr)) .nobr)))) (by kernel_rfl) ?_
             simp (config := { maxSteps := 4000000 }) only [tt, seval]
             all_goals try simp (config := { maxSteps := 4000000 }) only [tt, seval, hl0, hl1, hl2]
             all_goals repeat' first | refine brC ?_ ?_ | refine brC2 ?_ ?_
             all_goals
              refine CallQ.intro (ca) ?_ ?_ ?_
              ·decide
              ·simp (config := { maxSteps := 4000000 }) only [tt, seval, PB, Val.row, hl0, hl1, hl2]
               try decide
              rintro r os ⟨rfl, rfl⟩ hos
              simp (config := { maxSteps := 4000000 }) only [tt, seval, PB, Val.row, hl0, hl1, hl2]
             all_goals repeat' first | refine brA ?_ ?_ | refine brA2 ?_ ?_ | refine brA3 ?_ ?_
             all_goals
              refine ⟨by kernel_rfl, ⟨by simp only [maxLen]; omega, by omega⟩, ?_⟩
              try simp (config := { maxSteps := 4000000 }) only [tt, seval]
             all_goals exact ⟨rfl, rfl, rfl⟩
            case h2 =>
             intro f' hn0
             try simp (config := { maxSteps := 4000000 }) only [tt, seval, hn0]
             refine ⟨[(9000, .str (PB L wa)), (3, .str [.v (.bool dist), .s 29 m.length, .s 67 l.length, .sl wh.length (wh.flatMap Expr.row) none, .s 94 ((l9 ++ [(SortKey.mk (Expr.mk ka pa na xa qa ma ksa ssa) dea)])).length, .v (.int .i64 (-1))]), (29, .arr 121 m.length (m.flatMap Item.row) none), (67, .arr 124 l.length (l.flatMap Source.row) none), (94, .arr 128 ((l9 ++ [(SortKey.mk (Expr.mk ka pa na xa qa ma ksa ssa) dea)])).length (((l9 ++ [(SortKey.mk (Expr.mk ka pa na xa qa ma ksa ssa) dea)])).flatMap SortKey.row) none), (2, .str [.v (.bool false), .v (.slice none 0 0), .v (.slice none 0 0), .v (.slice none 0 0), .v (.slice none 0 0), .v (.int .i64 0)])], none, by simp only [bae, PB, mLit, mCol, mKids, mUn, mBin, zExpr, zVal, z0, Expr.row_mk, Query.row_mk, List.flatMap_nil, List.flatMap_cons, List.append_nil, List.length_nil, List.length_cons, SortKey.row_mk, Val.row, List.cons_append, List.nil_append, List.flatMap_append, List.length_append]; exact SubO.cons rfl (SubO.cons rfl (SubO.cons rfl (SubO.cons rfl (SubO.cons rfl (SubO.cons rfl (SubO.nil _)))))), PoSub.none _, ⟨l9 ++ [(SortKey.mk (Expr.mk ka pa na xa qa ma ksa ssa) dea)], wa, n9', hm9, hwa, by simp; omega, rfl, rfl⟩, ?_⟩
             show L.length - ((wa.a : Int)).toNat < L.length - ((v9.a : Int)).toNat
             omega
           | false =>
            rw [if_neg (by rw [c44]; simp)] at hm9
            injection hm9 with hm9; injection hm9 with e1 e2; subst e1 e2
            simp (config := { maxSteps := 4000000 }) only [tt, seval, Bool.false_eq_true, hl0, hl1, hl2]
            refine CallQ.intro (l12Maybe_d L hL hT v9 11 (by omega) (by omega) hv9) ?_ ?_ ?_
            ·decide
            ·simp (config := { maxSteps := 4000000 }) only [tt, seval, PB, hl0, hl1, hl2]
            rintro r os ⟨rfl, rfl⟩ hos
            simp (config := { maxSteps := 4000000 }) only [tt, seval, PB, hl0, hl1, hl2]
            cases c11 : isKey L v9 11 with
            | true =>
             have hlim : limitM L v9 = (numV (mText L 3 (adv v9)).1, (mText L 3 (adv v9)).2) := by rw [limitM, if_pos c11]; rfl
             rw [hlim] at h
             injection h with h; injection h with h1 h2; subst h1 h2
             have hsz := mt_small hL hT (adv v9) 3
             simp (config := { maxSteps := 4000000 }) only [tt, seval, tkT, tkF, muT, muF, hl0, hl1, hl2]
             refine CallQ.intro (l12Text_d L hL hT (adv v9) 3 (by omega) (adv_le (isKey_lt c11))) ?_ ?_ ?_
             ·decide
             ·simp (config := { maxSteps := 4000000 }) only [tt, seval, PB, hl0, hl1, hl2]
             rintro r os ⟨rfl, rfl⟩ hos
             simp (config := { maxSteps := 4000000 }) only [tt, seval, PB, hl0, hl1, hl2]
             generalize (mText L 3 (adv v9)).1 = xn at *
             generalize (mText L 3 (adv v9)).2 = sn at *
             refine call0 (Number_d xn hsz) ?_ ?_ ?_
             ·decide
             ·simp (config := { maxSteps := 4000000 }) only [tt, seval, numS, hl0, hl1, hl2]
             rintro r rfl
             simp (config := { maxSteps := 4000000 }) only [tt, seval, numS, hl0, hl1, hl2]
             refine ⟨.ag (csOf (Query.mk dist m l wh l9 (numV xn)).row), [PB L (sn)], ⟨rfl, rfl⟩, endOk ?_⟩
             simp (config := { maxSteps := 4000000 }) only [tt, seval, bae, PB, mLit, mCol, mKids, mUn, mBin, zExpr, zVal, z0, Expr.row_mk, Query.row_mk, List.flatMap_nil, List.flatMap_cons, List.append_nil, List.length_nil, List.length_cons, Val.row, PB, hl0, hl1, hl2]
            | false =>
             have hlim : limitM L v9 = (-1, v9) := by rw [limitM, if_neg (by rw [c11]; simp)]
             rw [hlim] at h
             injection h with h; injection h with h1 h2; subst h1 h2
             simp (config := { maxSteps := 4000000 }) only [tt, seval, tkT, tkF, muT, muF, Bool.false_eq_true, hl0, hl1, hl2]
             refine ⟨.ag (csOf (Query.mk dist m l wh l9 (-1)).row), [PB L (v9)], ⟨rfl, rfl⟩, endOk ?_⟩
             simp (config := { maxSteps := 4000000 }) only [tt, seval, bae, PB, mLit, mCol, mKids, mUn, mBin, zExpr, zVal, z0, Expr.row_mk, Query.row_mk, List.flatMap_nil, List.flatMap_cons, List.append_nil, List.length_nil, List.length_cons, Val.row, PB, hl0, hl1, hl2]
theorem specP (L : List Tok) (hL : L.length ≤ 1048576) (hT : ∀ t ∈ L, t.text.size ≤ 1048576) : ∀ k, (∀ lv : Nat, 1 ≤ lv → lv ≤ 8 → SpE L 39 [vi lv] ((pP L k).1 lv)) ∧ SpE L 90 [] ((pP L k).1 9) ∧ SpQ L 53 (pP L k).2
 | 0 => ⟨fun _ _ _ _ _ _ h => (by cases h), fun _ _ _ h => (by cases h), fun _ _ _ h => (by cases h)⟩
 | k + 1 => by
  obtain ⟨h1, h2, h3⟩ := specP L hL hT k
  obtain ⟨ok, okq⟩ := pP_ok (L := L) k
  refine ⟨fun lv a b => ?_, ?_, ?_⟩
  ·show SpE L _ _ (stepE L (pP L k).1 (pP L k).2 lv)
   by_cases e3 : lv = 3
   ·subst e3; exact l12Expr3 L hL hT ok okq h1 h2 h3
   by_cases e4 : lv = 4
   ·subst e4; exact l12Expr4 L hL hT ok okq h1 h2 h3
   by_cases e8 : lv = 8
   ·subst e8; exact l12Expr8 L hL hT ok okq h1 h2 h3
   ·exact l12ExprB L hL hT ok okq h1 h2 h3 lv (by simp only [List.mem_cons, List.not_mem_nil, or_false]; omega)
  ·have e : (pP L (k + 1)).1 9 = primM L (pP L k).1 (pP L k).2 := rfl
   rw [e]
   exact l12Prim_step L hL hT (ok 1) okq (h1 1 (by omega) (by omega)) h3
  ·exact l12Query_step L hL hT ok (h1 1 (by omega) (by omega))
theorem l12Expr_d (L : List Tok) (hL : L.length ≤ 1048576) (hT : ∀ t ∈ L, t.text.size ≤ 1048576) (lv : Nat) (h1 : 1 ≤ lv) (h2 : lv ≤ 8) : SpE L 39 [vi lv] (pExpr L lv) := (specP L hL hT (pD L)).1 lv h1 h2
theorem l12Query_d (L : List Tok) (hL : L.length ≤ 1048576) (hT : ∀ t ∈ L, t.text.size ≤ 1048576) : SpQ L 53 (pQuery L) := (specP L hL hT (pD L)).2.2
theorem pis_d (L : List Tok) (hL : L.length ≤ 1048576) (hT : ∀ t ∈ L, t.text.size ≤ 1048576) (s : PS) (k : Nat) (kind : Nat) (x : ByteArray) (hk : k ≤ 100) (ha : s.a ≤ L.length) : Cl Tryz.prog 165 [.c (.p 9000 0), vi k, vi kind, vs x] [PB L s] fun r os => r = vb (isT L s k kind x) ∧ os = [PB L s] := by
 obtain ⟨a, b⟩ := s
 have ha : a ≤ L.length := ha
 have hw : IntKind.i64.wrap ((a : Int) + k) = ((a + k : Nat) : Int) := wrap_id (n := (a : Int) + k) (by omega) (by omega)
 cases b with
 | true =>
  have e : isT L ⟨a, true⟩ k kind x = false := rfl
  rw [e]
  refine cl_of_d follows_mixed false Tryz.func165 rfl (by kernel_rfl) ?_
  simp only [Tryz.f165, tt, seval]
  simp only [tt, seval, PB, hw]
  refine ⟨_, [PB L ⟨a, true⟩], ⟨rfl, rfl⟩, endOk ?_⟩
  simp only [tt, seval, PB]
 | false =>
  refine cl_of_d follows_mixed false Tryz.func165 rfl (by kernel_rfl) ?_
  simp only [Tryz.f165, tt, seval]
  simp only [tt, seval, PB, hw]
  refine fun _ => ?_
  by_cases hlt : a + k < L.length
  ·have h1 : decide (((a + k : Nat) : Int) < (L.length : Int)) = true := decide_eq_true (by omega)
   have hx : L[a + k]? = some L[a + k] := List.getElem?_eq_getElem hlt
   have e : isT L ⟨a, false⟩ k kind x = (decide (L[a + k].kind = kind) && decide (L[a + k].text = x)) := by
    unfold isT tkAt
    simp only [Bool.false_eq_true, if_false, hx]
   have i0 : ((0 : Int) ≤ ((a + k : Nat) : Int)) = True := eq_true (by omega)
   have iL : (((a + k : Nat) : Int) < (L.length : Int)) = True := eq_true (by omega)
   have iT : (a + k < L.length) = True := eq_true hlt
   rw [e]
   generalize L[a + k] = tk at *
   generalize a + k = j at *
   simp only [tt, seval, h1, idxAt hx Tok.row_len, i0, iL, iT, Tok.row]
   cases hk1 : decide (tk.kind = (kind : Int)) with
   | true =>
    simp only [tt, seval, hk1, idxAt hx Tok.row_len, i0, iL, iT, Tok.row]
    trace_state
    refine ⟨_, [PB L ⟨a, false⟩], ⟨rfl, rfl⟩, endOk ?_⟩
    simp only [tt, seval, PB]
   | false =>
    simp only [tt, seval, hk1, idxAt hx Tok.row_len, i0, iL, iT, Tok.row]
    trace_state
    refine ⟨_, [PB L ⟨a, false⟩], ⟨rfl, rfl⟩, endOk ?_⟩
    simp only [tt, seval, PB]
  ·have h1 : decide (((a + k : Nat) : Int) < (L.length : Int)) = false := decide_eq_false (by omega)
   have e : isT L ⟨a, false⟩ k kind x = false := by
    unfold isT tkAt
    simp only [Bool.false_eq_true, if_false, List.getElem?_eq_none_iff.2 (show L.length ≤ a + k by omega)]
   rw [e]
   simp only [tt, seval, h1]
   refine ⟨_, [PB L ⟨a, false⟩], ⟨rfl, rfl⟩, endOk ?_⟩
   simp only [tt, seval, PB]
theorem pisKind_d (L : List Tok) (hL : L.length ≤ 1048576) (hT : ∀ t ∈ L, t.text.size ≤ 1048576) (s : PS) (k : Nat) (ha : s.a ≤ L.length) : Cl Tryz.prog 164 [.c (.p 9000 0), vi k] [PB L s] fun r os => r = vb (isK L s k) ∧ os = [PB L s] := by
 obtain ⟨a, b⟩ := s
 have ha : a ≤ L.length := ha
 cases b with
 | true =>
  have e : isK L ⟨a, true⟩ k = false := rfl
  rw [e]
  refine cl_of_d follows_mixed false Tryz.func164 rfl (by kernel_rfl) ?_
  simp only [Tryz.f164, tt, seval]
  refine dDrawn.intro [] (pln [0, 2, 4, 6, 8, 10, 12, 14, 16, 18, 20, 22, 24, 26, 28, 30, 32, 34, 36, 38, 40, 42, 44, 46, 48, 50, 52, 54, 56, 58, 60, 62, 64, 66, 68, 70, 72, 74, 76, 78, 80, 82, 84, 87, 88, 90]) (by kernel_rfl) ?_
  simp only [tt, seval]
  simp only [tt, seval, PB]
  refine ⟨_, [PB L ⟨a, true⟩], ⟨rfl, rfl⟩, endOk ?_⟩
  simp only [tt, seval, PB]
 | false =>
  refine cl_of_d follows_mixed false Tryz.func164 rfl (by kernel_rfl) ?_
  simp only [Tryz.f164, tt, seval]
  refine dDrawn.intro [] (pln [0, 2, 4, 6, 8, 10, 12, 14, 16, 18, 20, 22, 24, 26, 28, 30, 32, 34, 36, 38, 40, 42, 44, 46, 48, 50, 52, 54, 56, 58, 60, 62, 64, 66, 68, 70, 72, 74, 76, 78, 80, 82, 84, 87, 88, 90]) (by kernel_rfl) ?_
  simp only [tt, seval]
  simp only [tt, seval, PB]
  refine fun _ => ?_
  by_cases hlt : a < L.length
  ·have h1 : decide ((a : Int) < (L.length : Int)) = true := decide_eq_true (by omega)
   have hx : L[a]? = some L[a] := List.getElem?_eq_getElem hlt
   have ht := hT L[a] (List.getElem_mem hlt)
   have e : isK L ⟨a, false⟩ k = (decide (L[a].kind = k) && okTok L[a]) := by
    unfold isK tkAt
    simp only [Bool.false_eq_true, if_false, Nat.add_zero, hx]
   have i0 : ((0 : Int) ≤ (a : Int)) = True := eq_true (by omega)
   have iL : ((a : Int) < (L.length : Int)) = True := eq_true (by omega)
   have iT : (a < L.length) = True := eq_true hlt
   rw [e]
   generalize L[a] = tk at *
   simp only [tt, seval, h1, idxAt hx Tok.row_len, i0, iL, iT, Tok.row]
   cases hk1 : decide (tk.kind = (k : Int)) with
   | true =>
    simp only [tt, seval, hk1, idxAt hx Tok.row_len, i0, iL, iT, Tok.row]
    refine call0 (iTokenOk_d tk ht) ?_ ?_ ?_
    ·decide
    ·simp only [tt, seval, Tok.row]
    rintro r rfl
    simp only [tt, seval, Tok.row]
    refine ⟨_, [PB L ⟨a, false⟩], ⟨rfl, rfl⟩, endOk ?_⟩
    simp only [tt, seval, PB]
   | false =>
    simp only [tt, seval, hk1]
    refine ⟨_, [PB L ⟨a, false⟩], ⟨rfl, rfl⟩, endOk ?_⟩
    simp only [tt, seval, PB]
  ·have h1 : decide ((a : Int) < (L.length : Int)) = false := decide_eq_false (by omega)
   have e : isK L ⟨a, false⟩ k = false := by
    unfold isK tkAt
    simp only [Bool.false_eq_true, if_false, Nat.add_zero, List.getElem?_eq_none_iff.2 (show L.length ≤ a by omega)]
   rw [e]
   simp only [tt, seval, h1]
   refine ⟨_, [PB L ⟨a, false⟩], ⟨rfl, rfl⟩, endOk ?_⟩
   simp only [tt, seval, PB]
theorem pisKey_d (L : List Tok) (hL : L.length ≤ 1048576) (hT : ∀ t ∈ L, t.text.size ≤ 1048576) (s : PS) (k : Nat) (w : ByteArray) (hw : w = kw k) (ha : s.a ≤ L.length) : Cl Tryz.prog 114 [.c (.p 9000 0), vs w] [PB L s] fun r os => r = vb (isKey L s k) ∧ os = [PB L s] := by
 subst hw
 rw [show isKey L s k = isT L s 0 1 (kw k) from rfl]
 refine cl_of_d follows_mixed false Tryz.func114 rfl (by kernel_rfl) ?_
 simp only [Tryz.f114, tt, seval]
 refine CallQ.intro (pis_d L hL hT s 0 1 (kw k) (by omega) ha) ?_ ?_ ?_
 ·decide
 ·simp only [tt, seval, PB]
 rintro r os ⟨rfl, rfl⟩ hos
 simp only [tt, seval, PB]
 refine ⟨_, [PB L s], ⟨rfl, rfl⟩, endOk ?_⟩
 simp only [tt, seval, PB]
theorem pisSign_d (L : List Tok) (hL : L.length ≤ 1048576) (hT : ∀ t ∈ L, t.text.size ≤ 1048576) (s : PS) (c : UInt8) (ha : s.a ≤ L.length) : Cl Tryz.prog 167 [.c (.p 9000 0), vs ⟨#[c]⟩] [PB L s] fun r os => r = vb (isSg L s c) ∧ os = [PB L s] := by
 rw [show isSg L s c = isT L s 0 5 ⟨#[c]⟩ from rfl]
 refine cl_of_d follows_mixed false Tryz.func167 rfl (by kernel_rfl) ?_
 simp only [Tryz.f167, tt, seval]
 refine CallQ.intro (pis_d L hL hT s 0 5 ⟨#[c]⟩ (by omega) ha) ?_ ?_ ?_
 ·decide
 ·simp only [tt, seval, PB]
 rintro r os ⟨rfl, rfl⟩ hos
 simp only [tt, seval, PB]
 refine ⟨_, [PB L s], ⟨rfl, rfl⟩, endOk ?_⟩
 simp only [tt, seval, PB]
theorem ptakeKey_d (L : List Tok) (hL : L.length ≤ 1048576) (hT : ∀ t ∈ L, t.text.size ≤ 1048576) (s : PS) (k : Nat) (w : ByteArray) (hw : w = kw k) (ha : s.a ≤ L.length) : Cl Tryz.prog 102 [.c (.p 9000 0), vs w] [PB L s] fun r os => r = vb (isKey L s k) ∧ os = [PB L (tkIf (isKey L s k) s)] := by
 refine cl_of_d follows_mixed false Tryz.func102 rfl (by kernel_rfl) ?_
 simp only [Tryz.f102, tt, seval]
 refine CallQ.intro (pisKey_d L hL hT s k w hw ha) ?_ ?_ ?_
 ·decide
 ·simp only [tt, seval, PB]
 rintro r os ⟨rfl, rfl⟩ hos
 simp only [tt, seval, PB]
 cases c : isKey L s k with
 | true =>
  have hlt := (isKey_lt c).2
  simp only [tt, seval]
  rw [wrap_id (n := (s.a : Int) + 1) (by omega) (by omega)]
  try simp only [tt, seval]
  refine ⟨_, [PB L (adv s)], ⟨rfl, rfl⟩, endOk ?_⟩
  simp only [tt, seval, PB, adv]
  omega
 | false =>
  simp only [tt, seval, Bool.false_eq_true]
  refine ⟨_, [PB L s], ⟨rfl, rfl⟩, endOk ?_⟩
  simp only [tt, seval, PB]
theorem ptakeSign_d (L : List Tok) (hL : L.length ≤ 1048576) (hT : ∀ t ∈ L, t.text.size ≤ 1048576) (s : PS) (c : UInt8) (ha : s.a ≤ L.length) : Cl Tryz.prog 104 [.c (.p 9000 0), vs ⟨#[c]⟩] [PB L s] fun r os => r = vb (isSg L s c) ∧ os = [PB L (tkIf (isSg L s c) s)] := by
 refine cl_of_d follows_mixed false Tryz.func104 rfl (by kernel_rfl) ?_
 simp only [Tryz.f104, tt, seval]
 refine CallQ.intro (pisSign_d L hL hT s c ha) ?_ ?_ ?_
 ·decide
 ·simp only [tt, seval, PB]
 rintro r os ⟨rfl, rfl⟩ hos
 simp only [tt, seval, PB]
 cases c : isSg L s c with
 | true =>
  have hlt := (isSg_lt c).2
  simp only [tt, seval]
  rw [wrap_id (n := (s.a : Int) + 1) (by omega) (by omega)]
  try simp only [tt, seval]
  refine ⟨_, [PB L (adv s)], ⟨rfl, rfl⟩, endOk ?_⟩
  simp only [tt, seval, PB, adv]
  omega
 | false =>
  simp only [tt, seval, Bool.false_eq_true]
  refine ⟨_, [PB L s], ⟨rfl, rfl⟩, endOk ?_⟩
  simp only [tt, seval, PB]
theorem pmustKey_d (L : List Tok) (hL : L.length ≤ 1048576) (hT : ∀ t ∈ L, t.text.size ≤ 1048576) (s : PS) (k : Nat) (w : ByteArray) (hw : w = kw k) (ha : s.a ≤ L.length) : Cl Tryz.prog 101 [.c (.p 9000 0), vs w] [PB L s] fun r os => r = .tu [] ∧ os = [PB L (must (isKey L s k) s)] := by
 refine cl_of_d follows_mixed false Tryz.func101 rfl (by kernel_rfl) ?_
 simp only [Tryz.f101, tt, seval]
 refine CallQ.intro (ptakeKey_d L hL hT s k w hw ha) ?_ ?_ ?_
 ·decide
 ·simp only [tt, seval, PB]
 rintro r os ⟨rfl, rfl⟩ hos
 simp only [tt, seval, PB]
 cases c : isKey L s k with
 | true =>
  simp only [tt, seval, tkT, muT, Bool.not_true, Bool.false_eq_true]
  refine ⟨_, [PB L (adv s)], ⟨rfl, rfl⟩, endOk ?_⟩
  simp only [tt, seval, PB]
 | false =>
  simp only [tt, seval, tkF, muF, Bool.not_false]
  refine ⟨_, [PB L (fl s)], ⟨rfl, rfl⟩, endOk ?_⟩
  simp only [tt, seval, PB, fl]
theorem pmustSign_d (L : List Tok) (hL : L.length ≤ 1048576) (hT : ∀ t ∈ L, t.text.size ≤ 1048576) (s : PS) (c : UInt8) (ha : s.a ≤ L.length) : Cl Tryz.prog 171 [.c (.p 9000 0), vs ⟨#[c]⟩] [PB L s] fun r os => r = .tu [] ∧ os = [PB L (must (isSg L s c) s)] := by
 refine cl_of_d follows_mixed false Tryz.func171 rfl (by kernel_rfl) ?_
 simp only [Tryz.f171, tt, seval]
 refine CallQ.intro (ptakeSign_d L hL hT s c ha) ?_ ?_ ?_
 ·decide
 ·simp only [tt, seval, PB]
 rintro r os ⟨rfl, rfl⟩ hos
 simp only [tt, seval, PB]
 cases c : isSg L s c with
 | true =>
  simp only [tt, seval, tkT, muT, Bool.not_true, Bool.false_eq_true]
  refine ⟨_, [PB L (adv s)], ⟨rfl, rfl⟩, endOk ?_⟩
  simp only [tt, seval, PB]
 | false =>
  simp only [tt, seval, tkF, muF, Bool.not_false]
  refine ⟨_, [PB L (fl s)], ⟨rfl, rfl⟩, endOk ?_⟩
  simp only [tt, seval, PB, fl]
theorem pmustKind_d (L : List Tok) (hL : L.length ≤ 1048576) (hT : ∀ t ∈ L, t.text.size ≤ 1048576) (s : PS) (k : Nat) (ha : s.a ≤ L.length) : Cl Tryz.prog 115 [.c (.p 9000 0), vi k] [PB L s] fun r os => r = vs (mText L k s).1 ∧ os = [PB L (mText L k s).2] := by
 refine cl_of_d follows_mixed false Tryz.func115 rfl (by kernel_rfl) ?_
 simp only [Tryz.f115, tt, seval]
 refine CallQ.intro (pisKind_d L hL hT s k ha) ?_ ?_ ?_
 ·decide
 ·simp only [tt, seval, PB]
 rintro r os ⟨rfl, rfl⟩ hos
 simp only [tt, seval, PB]
 cases c : isK L s k with
 | true =>
  obtain ⟨hb, hlt⟩ := isK_lt c
  rw [mt_yes c]
  simp only [tt, seval, Bool.not_true, Bool.false_eq_true]
  rw [wrap_id (n := (s.a : Int) + 1) (by omega) (by omega)]
  try simp only [tt, seval]
  refine dDrawn.intro [] (pln [0, 2, 4, 6, 8, 10, 12, 14, 16, 18, 20, 22, 24]) (by kernel_rfl) ?_
  simp only [tt, seval]
  try simp only [tt, seval]
  have e1 : IntKind.i64.wrap ((s.a : Int) + 1 - 1) = s.a := by rw [wrap_id (n := (s.a : Int) + 1 - 1) (by omega) (by omega)]; omega
  have hx : L[s.a]? = some L[s.a] := List.getElem?_eq_getElem hlt
  have e2 : textAt L s = L[s.a].text := by
   unfold textAt tkAt
   rw [hb]
   simp only [Bool.false_eq_true, if_false, Nat.add_zero, hx]
  have i0 : ((0 : Int) ≤ (s.a : Int)) = True := eq_true (by omega)
  have iL : ((s.a : Int) < (L.length : Int)) = True := eq_true (by omega)
  have iT : (s.a < L.length) = True := eq_true hlt
  rw [e2]
  generalize L[s.a] = tk at *
  simp only [tt, seval, e1, idxAt hx Tok.row_len, i0, iL, iT, Tok.row]
  refine ⟨_, [PB L (adv s)], ⟨rfl, rfl⟩, endOk ?_⟩
  simp only [tt, seval, PB, adv]
  omega
 | false =>
  have e : mText L k s = (⟨#[]⟩, fl s) := by rw [mText, if_neg (by rw [c]; simp)]
  rw [e]
  simp only [tt, seval, Bool.not_false]
  refine ⟨vs ⟨#[]⟩, [PB L (fl s)], ⟨rfl, rfl⟩, endOk ?_⟩
  simp only [tt, seval, PB, fl]
theorem pmustNumber_d (L : List Tok) (hL : L.length ≤ 1048576) (hT : ∀ t ∈ L, t.text.size ≤ 1048576) (s : PS) (ha : s.a ≤ L.length) : Cl Tryz.prog 108 [.c (.p 9000 0)] [PB L s] fun r os => r = vi (mNum L s).1 ∧ os = [PB L (mNum L s).2] := by
 have hsz : (mText L 3 s).1.size ≤ 1048576 := by
  unfold mText
  split
  ·exact text_small hL hT s
  ·exact Nat.zero_le _
 have e : mNum L s = (numV (mText L 3 s).1, (mText L 3 s).2) := rfl
 rw [e]
 refine cl_of_d follows_mixed false Tryz.func108 rfl (by kernel_rfl) ?_
 simp only [Tryz.f108, tt, seval]
 refine CallQ.intro (pmustKind_d L hL hT s 3 ha) ?_ ?_ ?_
 ·decide
 ·simp only [tt, seval, PB]
 rintro r os ⟨rfl, rfl⟩ hos
 simp only [tt, seval, PB]
 generalize (mText L 3 s).1 = x at *
 refine call0 (iNumber_d x hsz) ?_ ?_ ?_
 ·decide
 ·simp only [tt, seval, numS]
 rintro r rfl
 simp only [tt, seval, numS]
 refine ⟨_, [PB L (mText L 3 s).2], ⟨rfl, rfl⟩, endOk ?_⟩
 simp only [tt, seval, PB]
theorem pend_d (L : List Tok) (hL : L.length ≤ 1048576) (hT : ∀ t ∈ L, t.text.size ≤ 1048576) (s : PS) (ha : s.a ≤ L.length) : Cl Tryz.prog 43 [.c (.p 9000 0)] [PB L s] fun r os => r = vi (endM L s) ∧ os = [PB L s] := by
 refine cl_of_d follows_mixed false Tryz.func43 rfl (by kernel_rfl) ?_
 simp only [Tryz.f43, tt, seval]
 refine dDrawn.intro [] (pln [0, 2, 4, 6, 8, 10, 12, 14, 16, 18, 20, 22, 24, 26, 28, 30]) (by kernel_rfl) ?_
 simp only [tt, seval]
 simp only [tt, seval, PB]
 cases hb : s.b with
 | true =>
  have e : endM L s = s.a := if_neg (by rw [hb]; simp)
  rw [e]
  simp only [tt, seval]
  exact ⟨_, _, ⟨rfl, rfl⟩, endOk (by simp only [tt, seval])⟩
 | false =>
  simp only [tt, seval]
  refine fun _ => And.intro (fun he => ?_) (fun he => ?_)
  ·have e : endM L s = s.a := if_neg (by omega)
   rw [e]
   exact ⟨_, _, ⟨rfl, rfl⟩, endOk (by simp only [tt, seval])⟩
  ·have e : endM L s = -1 := if_pos ⟨hb, by omega⟩
   rw [e]
   exact ⟨_, _, ⟨rfl, rfl⟩, endOk (by simp only [tt, seval])⟩
theorem pas_d (L : List Tok) (hL : L.length ≤ 1048576) (hT : ∀ t ∈ L, t.text.size ≤ 1048576) (s : PS) (ha : s.a ≤ L.length) : Cl Tryz.prog 166 [.c (.p 9000 0)] [PB L s] fun r os => r = vs (asM L s).1 ∧ os = [PB L (asM L s).2] := by
 refine cl_of_d follows_mixed false Tryz.func166 rfl (by kernel_rfl) ?_
 simp only [Tryz.f166, tt, seval]
 refine CallQ.intro (ptakeKey_d L hL hT s 12 ⟨#[65, 83]⟩ (by kernel_rfl) ha) ?_ ?_ ?_
 ·decide
 ·simp only [tt, seval, PB]
 rintro r os ⟨rfl, rfl⟩ hos
 simp only [tt, seval, PB]
 cases c : isKey L s 12 with
 | true =>
  have hm : asM L s = mText L 2 (adv s) := by rw [asM, if_pos c]
  rw [hm]
  simp only [tt, seval, tkT, tkF, muT, muF]
  refine CallQ.intro (pmustKind_d L hL hT (adv s) 2 (adv_le (isKey_lt c))) ?_ ?_ ?_
  ·decide
  ·simp only [tt, seval, PB]
  rintro r os ⟨rfl, rfl⟩ hos
  simp only [tt, seval, PB]
  refine ⟨_, [PB L (mText L 2 (adv s)).2], ⟨rfl, rfl⟩, endOk ?_⟩
  simp only [tt, seval, PB]
 | false =>
  have hm : asM L s = (z0, s) := by rw [asM, if_neg (by rw [c]; simp)]
  rw [hm]
  simp only [tt, seval, tkT, tkF, muT, muF, Bool.false_eq_true]
  refine ⟨vs z0, [PB L s], ⟨rfl, rfl⟩, endOk ?_⟩
  simp only [tt, seval, PB, z0]
def nrow (n : Nat) : List D := [.lit (.int .i64 n)]
theorem nrow_len (n : Nat) : (nrow n).length = 1 := rfl
theorem ptakeOp_d (L : List Tok) (hL : L.length ≤ 1048576) (hT : ∀ t ∈ L, t.text.size ≤ 1048576) (s : PS) (ops : List Nat) (hn : ops.length ≤ 100) (ho : ∀ op ∈ ops, 1 ≤ op ∧ op ≤ 100) (ha : s.a ≤ L.length) : Cl Tryz.prog 158 [.c (.p 9000 0), .c (.sl ops.length (ops.flatMap nrow) none)] [PB L s] fun r os => r = vi (opIn L s ops) ∧ os = [PB L (tkIf (decide (opIn L s ops ≠ 0)) s)] := by
 refine cl_of_d follows_mixed false Tryz.func158 rfl (by kernel_rfl) ?_
 simp only [Tryz.f158, tt, seval]
 refine fun _ => ?_
 refine dLoop.intro (fun f Lo p => ∃ i : Nat, f 10 = vi i ∧ i ≤ ops.length ∧ opIn L s (ops.drop i) = opIn L s ops ∧ Lo = [(9000, .str (PB L s))] ∧ p = none) (fun f _ _ => (ops.length - ixS (f 10)).toNat) [(9000, .str (PB L s))] none ⟨SubO.cons rfl (SubO.nil _), PoSub.none _, ?_⟩ ?_
 ·simp only [tt, seval]
  exact ⟨0, rfl, Nat.zero_le _, rfl⟩
 ·rintro g Lo p ⟨i, h10, hi, hin, rfl, rfl⟩
  simp only [tt, seval] at h10
  simp only [tt, seval, h10, Int.ofNat_lt]
  refine And.intro (fun hlt => ?_) (fun hge => ?_)
  ·have hlt : i < ops.length := by omega
   have hx : ops[i]? = some ops[i] := List.getElem?_eq_getElem hlt
   obtain ⟨ho1, ho2⟩ := ho ops[i] (List.getElem_mem hlt)
   rw [List.drop_eq_getElem_cons hlt, opIn] at hin
   refine ⟨by omega, by omega, _, drop_row nrow_len hx, by rw [nrow]; simp, ?_⟩
   generalize ops[i] = op at *
   simp only [tt, seval, h10, nrow]
   by_cases o1 : op = 1
   ·have d1 : decide ((op : Int) = 1) = true := decide_eq_true (by omega)
    simp only [tt, seval, h10, d1]
    have hk : opHit L s op = isT L s 0 (1 : Nat) (opT op) := by
     unfold opHit
     first | rw [if_pos (by omega)] | rw [if_neg (by omega)]
     rfl
    rw [hk] at hin
    refine call0 (iOpText_d op) ?_ ?_ ?_
    ·decide
    ·simp only [tt, seval, h10]
    rintro r rfl
    simp only [tt, seval, h10]
    refine CallQ.intro (pis_d L hL hT s 0 1 (opT op) (by omega) ha) ?_ ?_ ?_
    ·decide
    ·simp only [tt, seval, PB, h10]
    rintro r os ⟨rfl, rfl⟩ hos
    simp only [tt, seval, PB, h10]
    cases c : isT L s 0 (1 : Nat) (opT op) with
    | true =>
     rw [if_pos c] at hin
     have hlt2 := (isT_lt c).2
     rw [← hin]
     have h0 : decide (op ≠ 0) = true := decide_eq_true (by omega)
     simp only [tt, seval, h10]
     rw [wrap_id (n := (s.a : Int) + 1) (by omega) (by omega)]
     refine ⟨vi op, [PB L (adv s)], ⟨rfl, by rw [h0]; rfl⟩, endOk ?_⟩
     simp only [tt, seval, PB, adv]
     omega
    | false =>
     rw [if_neg (by rw [c]; simp)] at hin
     simp only [tt, seval, h10, Bool.false_eq_true]
     rw [wrS i (by omega)]
     exact ⟨[(9000, .str (PB L s))], none, SubO.cons rfl (SubO.nil _), PoSub.none _, ⟨i + 1, rfl, by omega, hin, rfl, rfl⟩, by simp only [ixS]; omega⟩
   ·have d1 : decide ((op : Int) = 1) = false := decide_eq_false (by omega)
    by_cases o2 : op = 2
    ·have d2 : decide ((op : Int) = 2) = true := decide_eq_true (by omega)
     simp only [tt, seval, h10, d1, d2]
     have hk : opHit L s op = isT L s 0 (1 : Nat) (opT op) := by
      unfold opHit
      first | rw [if_pos (by omega)] | rw [if_neg (by omega)]
      rfl
     rw [hk] at hin
     refine call0 (iOpText_d op) ?_ ?_ ?_
     ·decide
     ·simp only [tt, seval, h10]
     rintro r rfl
     simp only [tt, seval, h10]
     refine CallQ.intro (pis_d L hL hT s 0 1 (opT op) (by omega) ha) ?_ ?_ ?_
     ·decide
     ·simp only [tt, seval, PB, h10]
     rintro r os ⟨rfl, rfl⟩ hos
     simp only [tt, seval, PB, h10]
     cases c : isT L s 0 (1 : Nat) (opT op) with
     | true =>
      rw [if_pos c] at hin
      have hlt2 := (isT_lt c).2
      rw [← hin]
      have h0 : decide (op ≠ 0) = true := decide_eq_true (by omega)
      simp only [tt, seval, h10]
      rw [wrap_id (n := (s.a : Int) + 1) (by omega) (by omega)]
      refine ⟨vi op, [PB L (adv s)], ⟨rfl, by rw [h0]; rfl⟩, endOk ?_⟩
      simp only [tt, seval, PB, adv]
      omega
     | false =>
      rw [if_neg (by rw [c]; simp)] at hin
      simp only [tt, seval, h10, Bool.false_eq_true]
      rw [wrS i (by omega)]
      exact ⟨[(9000, .str (PB L s))], none, SubO.cons rfl (SubO.nil _), PoSub.none _, ⟨i + 1, rfl, by omega, hin, rfl, rfl⟩, by simp only [ixS]; omega⟩
    ·have d2 : decide ((op : Int) = 2) = false := decide_eq_false (by omega)
     simp only [tt, seval, h10, d1, d2]
     have hk : opHit L s op = isT L s 0 (5 : Nat) (opT op) := by
      unfold opHit
      first | rw [if_pos (by omega)] | rw [if_neg (by omega)]
      rfl
     rw [hk] at hin
     refine call0 (iOpText_d op) ?_ ?_ ?_
     ·decide
     ·simp only [tt, seval, h10]
     rintro r rfl
     simp only [tt, seval, h10]
     refine CallQ.intro (pis_d L hL hT s 0 5 (opT op) (by omega) ha) ?_ ?_ ?_
     ·decide
     ·simp only [tt, seval, PB, h10]
     rintro r os ⟨rfl, rfl⟩ hos
     simp only [tt, seval, PB, h10]
     cases c : isT L s 0 (5 : Nat) (opT op) with
     | true =>
      rw [if_pos c] at hin
      have hlt2 := (isT_lt c).2
      rw [← hin]
      have h0 : decide (op ≠ 0) = true := decide_eq_true (by omega)
      simp only [tt, seval, h10]
      rw [wrap_id (n := (s.a : Int) + 1) (by omega) (by omega)]
      refine ⟨vi op, [PB L (adv s)], ⟨rfl, by rw [h0]; rfl⟩, endOk ?_⟩
      simp only [tt, seval, PB, adv]
      omega
     | false =>
      rw [if_neg (by rw [c]; simp)] at hin
      simp only [tt, seval, h10, Bool.false_eq_true]
      rw [wrS i (by omega)]
      exact ⟨[(9000, .str (PB L s))], none, SubO.cons rfl (SubO.nil _), PoSub.none _, ⟨i + 1, rfl, by omega, hin, rfl, rfl⟩, by simp only [ixS]; omega⟩
  ·have : i = ops.length := by omega
   subst this
   rw [List.drop_length] at hin
   have h0 : opIn L s ops = 0 := hin.symm
   rw [h0]
   simp only [tt, seval, h10]
   exact ⟨_, [PB L s], ⟨rfl, rfl⟩, endOk (by simp only [tt, seval, PB])⟩
end Go.Proofs.YteffjmaadkkmeaaGreatDoor
set_option maxRecDepth 8000
namespace Go.Proofs.YteffjmaadkkmeaaGreatDoor
open Go Go.Dv Go.Cv
open Go.Vc (D shrI xorI andI and255)
theorem pbin_d (op : Nat) (a b : Expr) (Ak As Bk Bs : List (List Nat)) : ClT Tryz.prog 159 [vi op, .ag (told a.row [Ak, As]), .ag (told b.row [Bk, Bs])] [] (Ak ++ (As ++ (Bk ++ Bs))).flatten fun r os => os = [] ∧ ∃ Hk Hs, r = .ag (told (mBin op a b).row [Hk, Hs]) := by
 obtain ⟨k1, p1, n1, v1, q1, m1, ks1, ss1⟩ := a
 obtain ⟨k2, p2, n2, v2, q2, m2, ks2, ss2⟩ := b
 simp only [Expr.row_mk, told, Val.row, List.cons_append, List.nil_append]
 refine clT_of_d follows_mixed (some (Ak ++ (As ++ (Bk ++ Bs)))) _ (fun ps h => by injection h with h; subst h; first | rfl | simp) Tryz.func159 rfl (by kernel_rfl) ?_
 simp only [Tryz.f159, tt, seval]
 refine fun G => ⟨_, [], ⟨rfl, G :: (Ak ++ (As ++ (Bk ++ Bs))), [], rfl⟩, endOk ?_⟩
 simp only [tt, seval, bae, PB, mLit, mCol, mKids, mUn, mBin, zExpr, zVal, z0, Expr.row_mk, Query.row_mk, List.flatMap_nil, List.flatMap_cons, List.append_nil, List.length_nil, List.length_cons, told, Val.row, List.cons_append, List.nil_append]
 first | done | exact pool_ok fun x => by simp only [List.flatten_append, List.flatten_cons, List.flatten_nil, List.count_append, List.append_nil, List.nil_append, List.count_nil]; omega | exact ⟨by omega, Sb.refl _⟩ | exact ⟨by omega, pool_ok fun x => by simp only [List.flatten_append, List.flatten_cons, List.flatten_nil, List.count_append, List.append_nil, List.nil_append, List.count_nil]; omega⟩
def TpE (L : List Tok) (fn : FuncId) (m : PM Expr) : Prop := ∀ s e s', m s = some (e, s') → s.a ≤ L.length → Cl Tryz.prog fn [.c (.p 9000 0)] [PB L s] fun r os => (∃ Fk Fs, r = .ag (told (e).row [Fk, Fs])) ∧ os = [PB L s']
set_option maxHeartbeats 2000000 in
theorem pchain_step (L : List Tok) (hL : L.length ≤ 1048576) (hT : ∀ t ∈ L, t.text.size ≤ 1048576) {f : PM Expr} (okf : OkM (L := L) f) (g : FuncId) (hg : TpE L g f) (lv : Nat) (hn : (opsL lv).length ≤ 100) (ho : ∀ op ∈ opsL lv, 1 ≤ op ∧ op ≤ 100) (s : PS) (x : Expr) (s' : PS) (h : (match f s with | none => none | some (e, s1) => chainM L f lv (L.length + 1) e s1) = some (x, s')) (ha : s.a ≤ L.length) : Cl Tryz.prog 92 [.c (.p 9000 0), .c (.fn g [9000] []), .c (.sl (opsL lv).length ((opsL lv).flatMap nrow) none)] [PB L s] fun r os => (∃ Fk Fs, r = .ag (told (x).row [Fk, Fs])) ∧ os = [PB L s'] := by
 split at h
 ·cases h
 rename_i e s1 he
 have ha1 := (okf _ _ _ he).2.1 ha
 have c1 := hg _ _ _ he ha
 obtain ⟨k1, p1, n1, v1, q1, m1, ks1, ss1⟩ := e
 rw [Expr.row_mk] at c1
 refine cl_of_d follows_mixed true Tryz.func92 rfl (by kernel_rfl) ?_
 simp only [Tryz.f92, tt, seval]
 refine CallQ.intro (c1) ?_ ?_ ?_
 ·decide
 ·simp only [tt, seval, PB, told, Val.row, List.cons_append, List.nil_append]
 rintro r os ⟨⟨Fk, Fs, rfl⟩, rfl⟩ hos
 simp only [tt, seval, PB, told, Val.row, List.cons_append, List.nil_append]
 refine dLoop.gh [] ?_
 refine dLoop0.intro (fun f' Lo p => ∃ (e : Expr) (v : PS) (n : Nat) (Ek Es : List (List Nat)), chainM L f lv n e v = some (x, s') ∧ v.a ≤ L.length ∧ Lo = [(9000, .str (PB L v)), (7, .str (told (e).row [Ek, Es])), (6, .str [.v (.int .i64 0), .v (.int .i64 0), .v (.bool false), .v (.int .i64 0), .v (.int .i64 0), .v (.string ByteArray.empty), .v (.string ByteArray.empty), .v (.string ByteArray.empty), .v (.slice none 0 0), .v (.slice none 0 0)])] ∧ p = some (Ek ++ Es)) (fun _ Lo _ => L.length - atS Lo) [(9000, .str (PB L s1)), (7, .str (told ((Expr.mk k1 p1 n1 v1 q1 m1 ks1 ss1)).row [Fk, Fs])), (6, .str [.v (.int .i64 0), .v (.int .i64 0), .v (.bool false), .v (.int .i64 0), .v (.int .i64 0), .v (.string ByteArray.empty), .v (.string ByteArray.empty), .v (.string ByteArray.empty), .v (.slice none 0 0), .v (.slice none 0 0)])] (some (Fk ++ Fs)) ⟨by rw [Expr.row_mk]; exact SubO.cons rfl (SubO.cons rfl (SubO.cons rfl (SubO.nil _))), PoSub.refl _, ?_⟩ ?_
 ·simp only [tt, seval]
  exact ⟨(Expr.mk k1 p1 n1 v1 q1 m1 ks1 ss1), s1, L.length + 1, Fk, Fs, h, ha1, rfl, rfl⟩
 ·rintro g' Lo p ⟨e, v, n, Ek, Es, hm, hv, rfl, rfl⟩
  obtain ⟨k1, p1, n1, v1, q1, m1, ks1, ss1⟩ := e
  rw [Expr.row_mk]
  simp only [tt, seval, told, Val.row, List.cons_append, List.nil_append]
  refine CallQ.intro (ptakeOp_d L hL hT v (opsL lv) hn ho hv) ?_ ?_ ?_
  ·decide
  ·simp only [tt, seval, PB, told, Val.row, List.cons_append, List.nil_append]
  rintro r os ⟨rfl, rfl⟩ hos
  simp only [tt, seval, PB, told, Val.row, List.cons_append, List.nil_append]
  cases n with
  | zero => cases hm
  | succ n =>
  rw [chainM] at hm
  have hop0 : opIn L v (opsL lv) = opAt L v lv := rfl
  rw [hop0]
  by_cases hop : opAt L v lv = 0
  ·rw [if_pos hop] at hm
   injection hm with hm; injection hm with h1 h2; subst h1 h2
   have e0 : decide (((opAt L v lv : Nat) : Int) = 0) = true := decide_eq_true (by omega)
   have e1 : decide (¬ opAt L v lv = 0) = false := decide_eq_false (by omega)
   simp only [tt, seval, e0, e1, hop, tkF, told, Val.row, List.cons_append, List.nil_append]
   refine ⟨.ag (told ((Expr.mk k1 p1 n1 v1 q1 m1 ks1 ss1)).row [Ek, Es]), [PB L (v)], ⟨⟨Ek, Es, by first | rfl | simp only [bae, PB, mLit, mCol, mKids, mUn, mBin, zExpr, zVal, z0, Expr.row_mk, Query.row_mk, List.flatMap_nil, List.flatMap_cons, List.append_nil, List.length_nil, List.length_cons, told, Val.row, List.cons_append, List.nil_append]⟩, rfl⟩, endOk ?_⟩
   simp only [tt, seval, bae, PB, mLit, mCol, mKids, mUn, mBin, zExpr, zVal, z0, Expr.row_mk, Query.row_mk, List.flatMap_nil, List.flatMap_cons, List.append_nil, List.length_nil, List.length_cons, told, Val.row, List.cons_append, List.nil_append]
   first | done | exact pool_ok fun x => by simp only [List.flatten_append, List.flatten_cons, List.flatten_nil, List.count_append, List.append_nil, List.nil_append, List.count_nil]; omega | exact ⟨by omega, Sb.refl _⟩ | exact ⟨by omega, pool_ok fun x => by simp only [List.flatten_append, List.flatten_cons, List.flatten_nil, List.count_append, List.append_nil, List.nil_append, List.count_nil]; omega⟩
  ·rw [if_neg hop] at hm
   split at hm
   ·cases hm
   rename_i z u hz
   have hav := adv_le (L := L) (opAt_lt hop)
   have o3 := okf _ _ _ hz
   have o3a : v.a + 1 ≤ u.a := o3.1
   have hu := o3.2.1 hav
   have hlt := (opAt_lt hop).2
   obtain ⟨k2, p2, n2, v2, q2, m2, ks2, ss2⟩ := z
   have c2 := hg _ _ _ hz hav
   rw [Expr.row_mk] at c2
   have cb := fun Gk Gs => pbin_d (opAt L v lv) (Expr.mk k1 p1 n1 v1 q1 m1 ks1 ss1) (Expr.mk k2 p2 n2 v2 q2 m2 ks2 ss2) Ek Es Gk Gs
   simp only [Expr.row_mk, told, Val.row, List.cons_append, List.nil_append] at cb
   have e0 : decide (((opAt L v lv : Nat) : Int) = 0) = false := decide_eq_false (by omega)
   have e0' : (((opAt L v lv : Nat) : Int) = 0) = False := eq_false (by omega)
   have e1 : decide (¬ opAt L v lv = 0) = true := decide_eq_true (by omega)
   simp only [tt, seval, e0, e0', e1, tkT, told, Val.row, List.cons_append, List.nil_append]
   refine dDrawn.intro [20] (.take 0 (.take 2 (.br 1 (.br 3 (.br 4 (.br 5 .done .nobr) .nobr) .nobr) (.br 3 (.take 1 (.br 4 (.br 5 .done .nobr) .nobr)) .nobr)))) (by kernel_rfl) ?_
   simp only [tt, seval]
   all_goals repeat' first | refine brC ?_ ?_ | refine brC2 ?_ ?_
   all_goals
    refine CallQ.intro (c2) ?_ ?_ ?_
    ·decide
    ·simp only [tt, seval, PB, told, Val.row, List.cons_append, List.nil_append]
     try decide
    rintro r os ⟨⟨Gk, Gs, rfl⟩, rfl⟩ hos
    simp only [tt, seval, PB, told, Val.row, List.cons_append, List.nil_append]
   all_goals repeat' first | refine brC ?_ ?_ | refine brC2 ?_ ?_
   all_goals
    refine callT ([]) (cb Gk Gs) ?_ ?_ ?_ ?_
    ·decide
    ·simp only [tt, seval, PB, mBin, Expr.row_mk, told, Val.row, List.cons_append, List.nil_append]
     try decide
    ·exact fun x => by simp only [List.flatten_append, List.flatten_cons, List.flatten_nil, List.count_append, List.append_nil, List.nil_append, List.count_nil]; omega
    rintro r os ⟨rfl, Hk, Hs, rfl⟩ hos
    simp only [tt, seval, PB, mBin, Expr.row_mk, told, Val.row, List.cons_append, List.nil_append]
   all_goals
    refine ⟨[(9000, .str (PB L u)), (7, .str (told ((mBin (opAt L v lv) (Expr.mk k1 p1 n1 v1 q1 m1 ks1 ss1) (Expr.mk k2 p2 n2 v2 q2 m2 ks2 ss2))).row [Hk, Hs])), (6, .str [.v (.int .i64 0), .v (.int .i64 0), .v (.bool false), .v (.int .i64 0), .v (.int .i64 0), .v (.string ByteArray.empty), .v (.string ByteArray.empty), .v (.string ByteArray.empty), .v (.slice none 0 0), .v (.slice none 0 0)])], some (Hk ++ Hs), by simp only [bae, PB, mLit, mCol, mKids, mUn, mBin, zExpr, zVal, z0, Expr.row_mk, Query.row_mk, List.flatMap_nil, List.flatMap_cons, List.append_nil, List.length_nil, List.length_cons, told, Val.row, List.cons_append, List.nil_append]; exact SubO.cons rfl (SubO.cons rfl (SubO.cons rfl (SubO.nil _))), PoSub.refl _, ⟨_, u, n, Hk, Hs, hm, hu, rfl, rfl⟩, ?_⟩
    show L.length - ((u.a : Int)).toNat < L.length - ((v.a : Int)).toNat
    omega
theorem ops1 : opsL 1 = [1] := rfl
theorem ops2 : opsL 2 = [2] := rfl
theorem ops4 : opsL 4 = [3, 4, 5, 6, 7, 8] := rfl
theorem ops5 : opsL 5 = [9] := rfl
theorem ops6 : opsL 6 = [10, 11] := rfl
theorem ops7 : opsL 7 = [12, 13, 14] := rfl
set_option maxHeartbeats 1000000 in
theorem por_step (L : List Tok) (hL : L.length ≤ 1048576) (hT : ∀ t ∈ L, t.text.size ≤ 1048576) {f : Nat → PM Expr} {q : PM Query} (ok : OkM (L := L) (f 2)) (hg : TpE L 93 (f 2)) : TpE L 42 (stepE L f q 1) := by
 intro s x s' h ha
 have h : (match f 2 s with | none => none | some (e, s1) => chainM L (f 2) 1 (L.length + 1) e s1) = some (x, s') := h
 have c1 := pchain_step L hL hT ok 93 hg 1 (by decide) (by decide) s x s' h ha
 obtain ⟨k1, p1, n1, v1, q1, m1, ks1, ss1⟩ := x
 rw [Expr.row_mk] at c1
 simp only [ops1] at c1
 refine cl_of_d follows_mixed true Tryz.func42 rfl (by kernel_rfl) ?_
 simp only [Tryz.f42, tt, seval]
 refine callF [6] ?_
 simp only [tt, seval, PB, nrow, List.flatMap_cons, List.flatMap_nil, List.length_cons, List.length_nil, told, Val.row, List.cons_append, List.nil_append]
 refine fun G => ?_
 refine Call1.intro (c1) ?_ ?_ ?_
 ·decide
 ·simp only [tt, seval, PB, nrow, List.flatMap_cons, List.flatMap_nil, List.length_cons, List.length_nil, told, Val.row, List.cons_append, List.nil_append]
 rintro r os ⟨⟨Fk, Fs, rfl⟩, rfl⟩ hos
 simp only [tt, seval, PB, nrow, List.flatMap_cons, List.flatMap_nil, List.length_cons, List.length_nil, told, Val.row, List.cons_append, List.nil_append]
 refine ⟨.ag (told ((Expr.mk k1 p1 n1 v1 q1 m1 ks1 ss1)).row [Fk, Fs]), [PB L (s')], ⟨⟨Fk, Fs, by first | rfl | simp only [bae, PB, mLit, mCol, mKids, mUn, mBin, zExpr, zVal, z0, Expr.row_mk, Query.row_mk, List.flatMap_nil, List.flatMap_cons, List.append_nil, List.length_nil, List.length_cons, told, Val.row, List.cons_append, List.nil_append]⟩, rfl⟩, endOk ?_⟩
 simp only [tt, seval, bae, PB, mLit, mCol, mKids, mUn, mBin, zExpr, zVal, z0, Expr.row_mk, Query.row_mk, List.flatMap_nil, List.flatMap_cons, List.append_nil, List.length_nil, List.length_cons, told, Val.row, List.cons_append, List.nil_append]
 first | done | exact pool_ok fun x => by simp only [List.flatten_append, List.flatten_cons, List.flatten_nil, List.count_append, List.append_nil, List.nil_append, List.count_nil]; omega | exact ⟨by omega, Sb.refl _⟩ | exact ⟨by omega, pool_ok fun x => by simp only [List.flatten_append, List.flatten_cons, List.flatten_nil, List.count_append, List.append_nil, List.nil_append, List.count_nil]; omega⟩
set_option maxHeartbeats 1000000 in
theorem pand_step (L : List Tok) (hL : L.length ≤ 1048576) (hT : ∀ t ∈ L, t.text.size ≤ 1048576) {f : Nat → PM Expr} {q : PM Query} (ok : OkM (L := L) (f 3)) (hg : TpE L 160 (f 3)) : TpE L 93 (stepE L f q 2) := by
 intro s x s' h ha
 have h : (match f 3 s with | none => none | some (e, s1) => chainM L (f 3) 2 (L.length + 1) e s1) = some (x, s') := h
 have c1 := pchain_step L hL hT ok 160 hg 2 (by decide) (by decide) s x s' h ha
 obtain ⟨k1, p1, n1, v1, q1, m1, ks1, ss1⟩ := x
 rw [Expr.row_mk] at c1
 simp only [ops2] at c1
 refine cl_of_d follows_mixed true Tryz.func93 rfl (by kernel_rfl) ?_
 simp only [Tryz.f93, tt, seval]
 refine callF [6] ?_
 simp only [tt, seval, PB, nrow, List.flatMap_cons, List.flatMap_nil, List.length_cons, List.length_nil, told, Val.row, List.cons_append, List.nil_append]
 refine fun G => ?_
 refine Call1.intro (c1) ?_ ?_ ?_
 ·decide
 ·simp only [tt, seval, PB, nrow, List.flatMap_cons, List.flatMap_nil, List.length_cons, List.length_nil, told, Val.row, List.cons_append, List.nil_append]
 rintro r os ⟨⟨Fk, Fs, rfl⟩, rfl⟩ hos
 simp only [tt, seval, PB, nrow, List.flatMap_cons, List.flatMap_nil, List.length_cons, List.length_nil, told, Val.row, List.cons_append, List.nil_append]
 refine ⟨.ag (told ((Expr.mk k1 p1 n1 v1 q1 m1 ks1 ss1)).row [Fk, Fs]), [PB L (s')], ⟨⟨Fk, Fs, by first | rfl | simp only [bae, PB, mLit, mCol, mKids, mUn, mBin, zExpr, zVal, z0, Expr.row_mk, Query.row_mk, List.flatMap_nil, List.flatMap_cons, List.append_nil, List.length_nil, List.length_cons, told, Val.row, List.cons_append, List.nil_append]⟩, rfl⟩, endOk ?_⟩
 simp only [tt, seval, bae, PB, mLit, mCol, mKids, mUn, mBin, zExpr, zVal, z0, Expr.row_mk, Query.row_mk, List.flatMap_nil, List.flatMap_cons, List.append_nil, List.length_nil, List.length_cons, told, Val.row, List.cons_append, List.nil_append]
 first | done | exact pool_ok fun x => by simp only [List.flatten_append, List.flatten_cons, List.flatten_nil, List.count_append, List.append_nil, List.nil_append, List.count_nil]; omega | exact ⟨by omega, Sb.refl _⟩ | exact ⟨by omega, pool_ok fun x => by simp only [List.flatten_append, List.flatten_cons, List.flatten_nil, List.count_append, List.append_nil, List.nil_append, List.count_nil]; omega⟩
set_option maxHeartbeats 1000000 in
theorem pcat_step (L : List Tok) (hL : L.length ≤ 1048576) (hT : ∀ t ∈ L, t.text.size ≤ 1048576) {f : Nat → PM Expr} {q : PM Query} (ok : OkM (L := L) (f 6)) (hg : TpE L 303 (f 6)) : TpE L 266 (stepE L f q 5) := by
 intro s x s' h ha
 have h : (match f 6 s with | none => none | some (e, s1) => chainM L (f 6) 5 (L.length + 1) e s1) = some (x, s') := h
 have c1 := pchain_step L hL hT ok 303 hg 5 (by decide) (by decide) s x s' h ha
 obtain ⟨k1, p1, n1, v1, q1, m1, ks1, ss1⟩ := x
 rw [Expr.row_mk] at c1
 simp only [ops5] at c1
 refine cl_of_d follows_mixed true Tryz.func266 rfl (by kernel_rfl) ?_
 simp only [Tryz.f266, tt, seval]
 refine callF [6] ?_
 simp only [tt, seval, PB, nrow, List.flatMap_cons, List.flatMap_nil, List.length_cons, List.length_nil, told, Val.row, List.cons_append, List.nil_append]
 refine fun G => ?_
 refine Call1.intro (c1) ?_ ?_ ?_
 ·decide
 ·simp only [tt, seval, PB, nrow, List.flatMap_cons, List.flatMap_nil, List.length_cons, List.length_nil, told, Val.row, List.cons_append, List.nil_append]
 rintro r os ⟨⟨Fk, Fs, rfl⟩, rfl⟩ hos
 simp only [tt, seval, PB, nrow, List.flatMap_cons, List.flatMap_nil, List.length_cons, List.length_nil, told, Val.row, List.cons_append, List.nil_append]
 refine ⟨.ag (told ((Expr.mk k1 p1 n1 v1 q1 m1 ks1 ss1)).row [Fk, Fs]), [PB L (s')], ⟨⟨Fk, Fs, by first | rfl | simp only [bae, PB, mLit, mCol, mKids, mUn, mBin, zExpr, zVal, z0, Expr.row_mk, Query.row_mk, List.flatMap_nil, List.flatMap_cons, List.append_nil, List.length_nil, List.length_cons, told, Val.row, List.cons_append, List.nil_append]⟩, rfl⟩, endOk ?_⟩
 simp only [tt, seval, bae, PB, mLit, mCol, mKids, mUn, mBin, zExpr, zVal, z0, Expr.row_mk, Query.row_mk, List.flatMap_nil, List.flatMap_cons, List.append_nil, List.length_nil, List.length_cons, told, Val.row, List.cons_append, List.nil_append]
 first | done | exact pool_ok fun x => by simp only [List.flatten_append, List.flatten_cons, List.flatten_nil, List.count_append, List.append_nil, List.nil_append, List.count_nil]; omega | exact ⟨by omega, Sb.refl _⟩ | exact ⟨by omega, pool_ok fun x => by simp only [List.flatten_append, List.flatten_cons, List.flatten_nil, List.count_append, List.append_nil, List.nil_append, List.count_nil]; omega⟩
set_option maxHeartbeats 1000000 in
theorem psum_step (L : List Tok) (hL : L.length ≤ 1048576) (hT : ∀ t ∈ L, t.text.size ≤ 1048576) {f : Nat → PM Expr} {q : PM Query} (ok : OkM (L := L) (f 7)) (hg : TpE L 325 (f 7)) : TpE L 303 (stepE L f q 6) := by
 intro s x s' h ha
 have h : (match f 7 s with | none => none | some (e, s1) => chainM L (f 7) 6 (L.length + 1) e s1) = some (x, s') := h
 have c1 := pchain_step L hL hT ok 325 hg 6 (by decide) (by decide) s x s' h ha
 obtain ⟨k1, p1, n1, v1, q1, m1, ks1, ss1⟩ := x
 rw [Expr.row_mk] at c1
 simp only [ops6] at c1
 refine cl_of_d follows_mixed true Tryz.func303 rfl (by kernel_rfl) ?_
 simp only [Tryz.f303, tt, seval]
 refine callF [6] ?_
 simp only [tt, seval, PB, nrow, List.flatMap_cons, List.flatMap_nil, List.length_cons, List.length_nil, told, Val.row, List.cons_append, List.nil_append]
 refine fun G => ?_
 refine Call1.intro (c1) ?_ ?_ ?_
 ·decide
 ·simp only [tt, seval, PB, nrow, List.flatMap_cons, List.flatMap_nil, List.length_cons, List.length_nil, told, Val.row, List.cons_append, List.nil_append]
 rintro r os ⟨⟨Fk, Fs, rfl⟩, rfl⟩ hos
 simp only [tt, seval, PB, nrow, List.flatMap_cons, List.flatMap_nil, List.length_cons, List.length_nil, told, Val.row, List.cons_append, List.nil_append]
 refine ⟨.ag (told ((Expr.mk k1 p1 n1 v1 q1 m1 ks1 ss1)).row [Fk, Fs]), [PB L (s')], ⟨⟨Fk, Fs, by first | rfl | simp only [bae, PB, mLit, mCol, mKids, mUn, mBin, zExpr, zVal, z0, Expr.row_mk, Query.row_mk, List.flatMap_nil, List.flatMap_cons, List.append_nil, List.length_nil, List.length_cons, told, Val.row, List.cons_append, List.nil_append]⟩, rfl⟩, endOk ?_⟩
 simp only [tt, seval, bae, PB, mLit, mCol, mKids, mUn, mBin, zExpr, zVal, z0, Expr.row_mk, Query.row_mk, List.flatMap_nil, List.flatMap_cons, List.append_nil, List.length_nil, List.length_cons, told, Val.row, List.cons_append, List.nil_append]
 first | done | exact pool_ok fun x => by simp only [List.flatten_append, List.flatten_cons, List.flatten_nil, List.count_append, List.append_nil, List.nil_append, List.count_nil]; omega | exact ⟨by omega, Sb.refl _⟩ | exact ⟨by omega, pool_ok fun x => by simp only [List.flatten_append, List.flatten_cons, List.flatten_nil, List.count_append, List.append_nil, List.nil_append, List.count_nil]; omega⟩
set_option maxHeartbeats 1000000 in
theorem pprod_step (L : List Tok) (hL : L.length ≤ 1048576) (hT : ∀ t ∈ L, t.text.size ≤ 1048576) {f : Nat → PM Expr} {q : PM Query} (ok : OkM (L := L) (f 8)) (hg : TpE L 337 (f 8)) : TpE L 325 (stepE L f q 7) := by
 intro s x s' h ha
 have h : (match f 8 s with | none => none | some (e, s1) => chainM L (f 8) 7 (L.length + 1) e s1) = some (x, s') := h
 have c1 := pchain_step L hL hT ok 337 hg 7 (by decide) (by decide) s x s' h ha
 obtain ⟨k1, p1, n1, v1, q1, m1, ks1, ss1⟩ := x
 rw [Expr.row_mk] at c1
 simp only [ops7] at c1
 refine cl_of_d follows_mixed true Tryz.func325 rfl (by kernel_rfl) ?_
 simp only [Tryz.f325, tt, seval]
 refine callF [6] ?_
 simp only [tt, seval, PB, nrow, List.flatMap_cons, List.flatMap_nil, List.length_cons, List.length_nil, told, Val.row, List.cons_append, List.nil_append]
 refine fun G => ?_
 refine Call1.intro (c1) ?_ ?_ ?_
 ·decide
 ·simp only [tt, seval, PB, nrow, List.flatMap_cons, List.flatMap_nil, List.length_cons, List.length_nil, told, Val.row, List.cons_append, List.nil_append]
 rintro r os ⟨⟨Fk, Fs, rfl⟩, rfl⟩ hos
 simp only [tt, seval, PB, nrow, List.flatMap_cons, List.flatMap_nil, List.length_cons, List.length_nil, told, Val.row, List.cons_append, List.nil_append]
 refine ⟨.ag (told ((Expr.mk k1 p1 n1 v1 q1 m1 ks1 ss1)).row [Fk, Fs]), [PB L (s')], ⟨⟨Fk, Fs, by first | rfl | simp only [bae, PB, mLit, mCol, mKids, mUn, mBin, zExpr, zVal, z0, Expr.row_mk, Query.row_mk, List.flatMap_nil, List.flatMap_cons, List.append_nil, List.length_nil, List.length_cons, told, Val.row, List.cons_append, List.nil_append]⟩, rfl⟩, endOk ?_⟩
 simp only [tt, seval, bae, PB, mLit, mCol, mKids, mUn, mBin, zExpr, zVal, z0, Expr.row_mk, Query.row_mk, List.flatMap_nil, List.flatMap_cons, List.append_nil, List.length_nil, List.length_cons, told, Val.row, List.cons_append, List.nil_append]
 first | done | exact pool_ok fun x => by simp only [List.flatten_append, List.flatten_cons, List.flatten_nil, List.count_append, List.append_nil, List.nil_append, List.count_nil]; omega | exact ⟨by omega, Sb.refl _⟩ | exact ⟨by omega, pool_ok fun x => by simp only [List.flatten_append, List.flatten_cons, List.flatten_nil, List.count_append, List.append_nil, List.nil_append, List.count_nil]; omega⟩
set_option maxHeartbeats 1000000 in
theorem pnot_step (L : List Tok) (hL : L.length ≤ 1048576) (hT : ∀ t ∈ L, t.text.size ≤ 1048576) {f : Nat → PM Expr} {q : PM Query} (hs : TpE L 160 (f 3)) (hg : TpE L 223 (f 4)) : TpE L 160 (stepE L f q 3) := by
 intro s x s' h ha
 have h : (if isKey L s 15 = true then (match f 3 (adv s) with | none => none | some (e, s1) => some (mUn 15 e, s1)) else f 4 s) = some (x, s') := h
 refine cl_of_d follows_mixed true Tryz.func160 rfl (by kernel_rfl) ?_
 simp only [Tryz.f160, tt, seval]
 refine CallQ.intro (ptakeKey_d L hL hT s 15 ⟨#[78, 79, 84]⟩ (by kernel_rfl) ha) ?_ ?_ ?_
 ·decide
 ·simp only [tt, seval, PB]
 rintro r os ⟨rfl, rfl⟩ hos
 simp only [tt, seval, PB]
 cases c : isKey L s 15 with
 | true =>
  rw [if_pos c] at h
  split at h
  ·cases h
  rename_i e s1 he
  injection h with h; injection h with h1 h2; subst h1 h2
  obtain ⟨k1, p1, n1, v1, q1, m1, ks1, ss1⟩ := e
  have c1 := hs _ _ _ he (adv_le (isKey_lt c))
  rw [Expr.row_mk] at c1
  simp only [tt, seval, tkT, tkF, muT, muF]
  refine CallQ.intro (c1) ?_ ?_ ?_
  ·decide
  ·simp only [tt, seval, PB, told, Val.row, List.cons_append, List.nil_append]
  rintro r os ⟨⟨Fk, Fs, rfl⟩, rfl⟩ hos
  simp only [tt, seval, PB, told, Val.row, List.cons_append, List.nil_append]
  refine fun G => ?_
  refine ⟨.ag (told (mUn 15 (Expr.mk k1 p1 n1 v1 q1 m1 ks1 ss1)).row [G :: (Fk ++ Fs), []]), [PB L s1], ⟨⟨_, _, rfl⟩, rfl⟩, endOk ?_⟩
  simp only [tt, seval, bae, PB, mLit, mCol, mKids, mUn, mBin, zExpr, zVal, z0, Expr.row_mk, Query.row_mk, List.flatMap_nil, List.flatMap_cons, List.append_nil, List.length_nil, List.length_cons, told, Val.row, List.cons_append, List.nil_append]
  first | done | exact pool_ok fun x => by simp only [List.flatten_append, List.flatten_cons, List.flatten_nil, List.count_append, List.append_nil, List.nil_append, List.count_nil]; omega | exact ⟨by omega, Sb.refl _⟩ | exact ⟨by omega, pool_ok fun x => by simp only [List.flatten_append, List.flatten_cons, List.flatten_nil, List.count_append, List.append_nil, List.nil_append, List.count_nil]; omega⟩
 | false =>
  rw [if_neg (by rw [c]; simp)] at h
  obtain ⟨k1, p1, n1, v1, q1, m1, ks1, ss1⟩ := x
  have c1 := hg _ _ _ h ha
  rw [Expr.row_mk] at c1
  simp only [tt, seval, tkT, tkF, muT, muF, Bool.false_eq_true]
  refine CallQ.intro (c1) ?_ ?_ ?_
  ·decide
  ·simp only [tt, seval, PB, told, Val.row, List.cons_append, List.nil_append]
  rintro r os ⟨⟨Fk, Fs, rfl⟩, rfl⟩ hos
  simp only [tt, seval, PB, told, Val.row, List.cons_append, List.nil_append]
  refine ⟨.ag (told ((Expr.mk k1 p1 n1 v1 q1 m1 ks1 ss1)).row [Fk, Fs]), [PB L (s')], ⟨⟨Fk, Fs, by first | rfl | simp only [bae, PB, mLit, mCol, mKids, mUn, mBin, zExpr, zVal, z0, Expr.row_mk, Query.row_mk, List.flatMap_nil, List.flatMap_cons, List.append_nil, List.length_nil, List.length_cons, told, Val.row, List.cons_append, List.nil_append]⟩, rfl⟩, endOk ?_⟩
  simp only [tt, seval, bae, PB, mLit, mCol, mKids, mUn, mBin, zExpr, zVal, z0, Expr.row_mk, Query.row_mk, List.flatMap_nil, List.flatMap_cons, List.append_nil, List.length_nil, List.length_cons, told, Val.row, List.cons_append, List.nil_append]
  first | done | exact pool_ok fun x => by simp only [List.flatten_append, List.flatten_cons, List.flatten_nil, List.count_append, List.append_nil, List.nil_append, List.count_nil]; omega | exact ⟨by omega, Sb.refl _⟩ | exact ⟨by omega, pool_ok fun x => by simp only [List.flatten_append, List.flatten_cons, List.flatten_nil, List.count_append, List.append_nil, List.nil_append, List.count_nil]; omega⟩
set_option maxHeartbeats 1000000 in
theorem pneg_step (L : List Tok) (hL : L.length ≤ 1048576) (hT : ∀ t ∈ L, t.text.size ≤ 1048576) {f : Nat → PM Expr} {q : PM Query} (hs : TpE L 337 (f 8)) (hg : TpE L 348 (f 9)) : TpE L 337 (stepE L f q 8) := by
 intro s x s' h ha
 have h : (if isSg L s 45 = true then (match f 8 (adv s) with | none => none | some (e, s1) => some (mUn 16 e, s1)) else f 9 s) = some (x, s') := h
 refine cl_of_d follows_mixed true Tryz.func337 rfl (by kernel_rfl) ?_
 simp only [Tryz.f337, tt, seval]
 refine CallQ.intro (ptakeSign_d L hL hT s 45 ha) ?_ ?_ ?_
 ·decide
 ·simp only [tt, seval, PB]
 rintro r os ⟨rfl, rfl⟩ hos
 simp only [tt, seval, PB]
 cases c : isSg L s 45 with
 | true =>
  rw [if_pos c] at h
  split at h
  ·cases h
  rename_i e s1 he
  injection h with h; injection h with h1 h2; subst h1 h2
  obtain ⟨k1, p1, n1, v1, q1, m1, ks1, ss1⟩ := e
  have c1 := hs _ _ _ he (adv_le (isSg_lt c))
  rw [Expr.row_mk] at c1
  simp only [tt, seval, tkT, tkF, muT, muF]
  refine CallQ.intro (c1) ?_ ?_ ?_
  ·decide
  ·simp only [tt, seval, PB, told, Val.row, List.cons_append, List.nil_append]
  rintro r os ⟨⟨Fk, Fs, rfl⟩, rfl⟩ hos
  simp only [tt, seval, PB, told, Val.row, List.cons_append, List.nil_append]
  refine fun G => ?_
  refine ⟨.ag (told (mUn 16 (Expr.mk k1 p1 n1 v1 q1 m1 ks1 ss1)).row [G :: (Fk ++ Fs), []]), [PB L s1], ⟨⟨_, _, rfl⟩, rfl⟩, endOk ?_⟩
  simp only [tt, seval, bae, PB, mLit, mCol, mKids, mUn, mBin, zExpr, zVal, z0, Expr.row_mk, Query.row_mk, List.flatMap_nil, List.flatMap_cons, List.append_nil, List.length_nil, List.length_cons, told, Val.row, List.cons_append, List.nil_append]
  first | done | exact pool_ok fun x => by simp only [List.flatten_append, List.flatten_cons, List.flatten_nil, List.count_append, List.append_nil, List.nil_append, List.count_nil]; omega | exact ⟨by omega, Sb.refl _⟩ | exact ⟨by omega, pool_ok fun x => by simp only [List.flatten_append, List.flatten_cons, List.flatten_nil, List.count_append, List.append_nil, List.nil_append, List.count_nil]; omega⟩
 | false =>
  rw [if_neg (by rw [c]; simp)] at h
  obtain ⟨k1, p1, n1, v1, q1, m1, ks1, ss1⟩ := x
  have c1 := hg _ _ _ h ha
  rw [Expr.row_mk] at c1
  simp only [tt, seval, tkT, tkF, muT, muF, Bool.false_eq_true]
  refine CallQ.intro (c1) ?_ ?_ ?_
  ·decide
  ·simp only [tt, seval, PB, told, Val.row, List.cons_append, List.nil_append]
  rintro r os ⟨⟨Fk, Fs, rfl⟩, rfl⟩ hos
  simp only [tt, seval, PB, told, Val.row, List.cons_append, List.nil_append]
  refine ⟨.ag (told ((Expr.mk k1 p1 n1 v1 q1 m1 ks1 ss1)).row [Fk, Fs]), [PB L (s')], ⟨⟨Fk, Fs, by first | rfl | simp only [bae, PB, mLit, mCol, mKids, mUn, mBin, zExpr, zVal, z0, Expr.row_mk, Query.row_mk, List.flatMap_nil, List.flatMap_cons, List.append_nil, List.length_nil, List.length_cons, told, Val.row, List.cons_append, List.nil_append]⟩, rfl⟩, endOk ?_⟩
  simp only [tt, seval, bae, PB, mLit, mCol, mKids, mUn, mBin, zExpr, zVal, z0, Expr.row_mk, Query.row_mk, List.flatMap_nil, List.flatMap_cons, List.append_nil, List.length_nil, List.length_cons, told, Val.row, List.cons_append, List.nil_append]
  first | done | exact pool_ok fun x => by simp only [List.flatten_append, List.flatten_cons, List.flatten_nil, List.count_append, List.append_nil, List.nil_append, List.count_nil]; omega | exact ⟨by omega, Sb.refl _⟩ | exact ⟨by omega, pool_ok fun x => by simp only [List.flatten_append, List.flatten_cons, List.flatten_nil, List.count_append, List.append_nil, List.nil_append, List.count_nil]; omega⟩
def TpQ (L : List Tok) (fn : FuncId) (m : PM Query) : Prop := ∀ s e s', m s = some (e, s') → s.a ≤ L.length → Cl Tryz.prog fn [.c (.p 9000 0)] [PB L s] fun r os => (∃ Fi Ff Fw Fo, r = .ag (told (e).row [Fi, Ff, Fw, Fo])) ∧ os = [PB L s']
theorem plit_d (v : Val) : Cl Tryz.prog 356 [.ag (csOf v.row)] [] fun r _ => r = .ag (told (mLit v).row [[], []]) := by
 refine cl_of_d follows_mixed false Tryz.func356 rfl (by kernel_rfl) ?_
 simp only [Tryz.f356, tt, seval]
 simp only [tt, seval, Val.row]
 refine ⟨.ag (told (mLit v).row [[], []]), [], rfl, endOk ?_⟩
 simp only [tt, seval, bae, PB, mLit, mCol, mKids, mUn, mBin, zExpr, zVal, z0, Expr.row_mk, Query.row_mk, List.flatMap_nil, List.flatMap_cons, List.append_nil, List.length_nil, List.length_cons, told, Val.row, List.cons_append, List.nil_append]
set_option maxHeartbeats 2000000 in
theorem pors_step (L : List Tok) (hL : L.length ≤ 1048576) (hT : ∀ t ∈ L, t.text.size ≤ 1048576) {f : Nat → PM Expr} (ok : OkM (L := L) (f 1)) (hg : TpE L 42 (f 1)) (s : PS) (x : List Expr) (s' : PS) (h : orsM L f s = some (x, s')) (ha : s.a ≤ L.length) : Cl Tryz.prog 172 [.c (.p 9000 0)] [PB L s] fun r os => (x.length ≤ 1048580 ∧ ∃ F, r = .c (.ow 29 x.length (x.flatMap Expr.row) (some F))) ∧ os = [PB L s'] := by
 unfold orsM at h
 split at h
 ·cases h
 rename_i e s1 he
 have ha1 := (ok _ _ _ he).2.1 ha
 have c1 := hg _ _ _ he ha
 obtain ⟨k1, p1, n1, v1, q1, m1, ks1, ss1⟩ := e
 rw [Expr.row_mk] at c1
 refine cl_of_d follows_mixed true Tryz.func172 rfl (by kernel_rfl) ?_
 simp only [Tryz.f172, tt, seval]
 refine CallQ.intro (c1) ?_ ?_ ?_
 ·decide
 ·simp only [tt, seval, PB, told, Val.row, List.cons_append, List.nil_append]
 rintro r os ⟨⟨Fk, Fs, rfl⟩, rfl⟩ hos
 simp only [tt, seval, PB, told, Val.row, List.cons_append, List.nil_append]
 refine dLoop.gh [.ren 6 13] ⟨by decide, by decide, ?_⟩
 refine dLoop0.intro (fun f' Lo p => ∃ (l : List Expr) (v : PS) (n : Nat) (Fl Pl : List (List Nat)), f' 3 = .c (.s 13 l.length) ∧ sepM L (f 1) n l v = some (x, s') ∧ v.a ≤ L.length ∧ l.length ≤ v.a + 1 ∧ Sb Fl.flatten Pl.flatten ∧ Lo = [(9000, .str (PB L v)), (13, .arr 29 (l).length ((l).flatMap Expr.row) (some (Fl)))] ∧ p = some Pl) (fun _ Lo _ => L.length - atS Lo) [(9000, .str (PB L s1)), (13, .arr 29 ([(Expr.mk k1 p1 n1 v1 q1 m1 ks1 ss1)]).length (([(Expr.mk k1 p1 n1 v1 q1 m1 ks1 ss1)]).flatMap Expr.row) (some (Fk ++ Fs)))] (some (Fk ++ Fs)) ⟨by simp only [bae, PB, mLit, mCol, mKids, mUn, mBin, zExpr, zVal, z0, Expr.row_mk, Query.row_mk, List.flatMap_nil, List.flatMap_cons, List.append_nil, List.length_nil, List.length_cons, Val.row]; exact SubO.cons rfl (SubO.cons rfl (SubO.nil _)), PoSub.refl _, ?_⟩ ?_
 ·simp only [tt, seval]
  exact ⟨[(Expr.mk k1 p1 n1 v1 q1 m1 ks1 ss1)], s1, L.length + 1, Fk ++ Fs, Fk ++ Fs, rfl, h, ha1, by simp, Sb.refl _, rfl, rfl⟩
 ·rintro g' Lo p ⟨l, v, n, Fl, Pl, h3, hm, hv, hml, hsb, rfl, rfl⟩
  simp only [tt, seval] at h3
  simp only [tt, seval, h3]
  refine CallQ.intro (ptakeSign_d L hL hT v 44 hv) ?_ ?_ ?_
  ·decide
  ·simp only [tt, seval, PB, h3]
  rintro r os ⟨rfl, rfl⟩ hos
  simp only [tt, seval, PB, h3]
  cases n with
  | zero => cases hm
  | succ n =>
  rw [sepM] at hm
  cases c44 : isSg L v 44 with
  | true =>
   rw [if_pos c44] at hm
   split at hm
   ·cases hm
   rename_i z u hz
   have hav := adv_le (L := L) (isSg_lt c44)
   have o3 := ok _ _ _ hz
   have o3a : v.a + 1 ≤ u.a := o3.1
   have hu := o3.2.1 hav
   have hlt := (isSg_lt c44).2
   obtain ⟨k2, p2, n2, v2, q2, m2, ks2, ss2⟩ := z
   have c2 := hg _ _ _ hz hav
   rw [Expr.row_mk] at c2
   simp only [tt, seval, tkT, tkF, muT, muF, h3]
   refine CallQ.intro (c2) ?_ ?_ ?_
   ·decide
   ·simp only [tt, seval, PB, h3, told, Val.row, List.cons_append, List.nil_append]
   rintro r os ⟨⟨Gk, Gs, rfl⟩, rfl⟩ hos
   simp only [tt, seval, PB, h3, told, Val.row, List.cons_append, List.nil_append]
   refine ⟨by kernel_rfl, ⟨by simp only [maxLen]; omega, by omega⟩, ?_⟩
   refine ⟨[(9000, .str (PB L u)), (13, .arr 29 ((l ++ [(Expr.mk k2 p2 n2 v2 q2 m2 ks2 ss2)])).length (((l ++ [(Expr.mk k2 p2 n2 v2 q2 m2 ks2 ss2)])).flatMap Expr.row) (some (Fl ++ (Gk ++ Gs))))], some (Pl ++ (Gk ++ Gs)), by simp only [bae, PB, mLit, mCol, mKids, mUn, mBin, zExpr, zVal, z0, Expr.row_mk, Query.row_mk, List.flatMap_nil, List.flatMap_cons, List.append_nil, List.length_nil, List.length_cons, Val.row, List.flatMap_append, List.length_append]; exact SubO.cons rfl (SubO.cons rfl (SubO.nil _)), PoSub.refl _, ⟨l ++ [(Expr.mk k2 p2 n2 v2 q2 m2 ks2 ss2)], u, n, _, _, by simp, hm, hu, by simp; omega, by simp only [List.flatten_append]; exact hsb.append (Sb.refl _), rfl, rfl⟩, ?_⟩
   show L.length - ((u.a : Int)).toNat < L.length - ((v.a : Int)).toNat
   omega
  | false =>
   rw [if_neg (by rw [c44]; simp)] at hm
   injection hm with hm; injection hm with e1 e2; subst e1 e2
   simp only [tt, seval, tkT, tkF, muT, muF, Bool.false_eq_true, h3]
   refine ⟨.c (.ow 29 l.length (l.flatMap Expr.row) (some Fl)), [PB L v], ⟨⟨by omega, Fl, rfl⟩, rfl⟩, endOk ?_⟩
   simp only [tt, seval, PB]
   exact hsb
set_option maxHeartbeats 4000000 in
theorem pin_step (L : List Tok) (hL : L.length ≤ 1048576) (hT : ∀ t ∈ L, t.text.size ≤ 1048576) {f : Nat → PM Expr} {q : PM Query} (ok : ∀ lv, OkM (L := L) (f lv)) (okq : OkM (L := L) q) (hor : TpE L 42 (f 1)) (hq : TpQ L 54 q) (e : Expr) (not : Bool) (Ek Es : List (List Nat)) (s : PS) (x : Expr) (s' : PS) (h : inM L f q e not s = some (x, s')) (ha : s.a ≤ L.length) : ClT Tryz.prog 267 [.c (.p 9000 0), .ag (told e.row [Ek, Es]), vb not] [PB L s] (Ek ++ Es).flatten fun r os => (∃ Hk Hs, r = .ag (told x.row [Hk, Hs])) ∧ os = [PB L s'] := by
 obtain ⟨k1, p1, n1, v1, q1, m1, ks1, ss1⟩ := e
 unfold inM at h
 simp only at h
 simp only [Expr.row_mk, told, Val.row, List.cons_append, List.nil_append]
 refine clT_of_d follows_mixed (some (Ek ++ Es)) _ (fun ps h => by injection h with h; subst h; first | rfl | simp) Tryz.func267 rfl (by kernel_rfl) ?_
 simp only [Tryz.f267, tt, seval]
 refine CallQ.intro (pmustSign_d L hL hT s 40 ha) ?_ ?_ ?_
 ·decide
 ·simp only [tt, seval, PB]
 rintro r os ⟨rfl, rfl⟩ hos
 simp only [tt, seval, PB]
 have o1 : Ok L s (must (isSg L s 40) s) := Ok.must fun h => isSg_lt h
 have ha1 := o1.2.1 ha
 generalize must (isSg L s 40) s = u at *
 refine CallQ.intro (pisKey_d L hL hT u 1 ⟨#[83, 69, 76, 69, 67, 84]⟩ (by kernel_rfl) ha1) ?_ ?_ ?_
 ·decide
 ·simp only [tt, seval, PB]
 rintro r os ⟨rfl, rfl⟩ hos
 simp only [tt, seval, PB]
 cases c1 : isKey L u 1 with
 | true =>
  rw [if_pos c1] at h
  split at h
  ·cases h
  rename_i y t hy
  injection h with h; injection h with h1 h2; subst h1 h2
  have ht := (okq _ _ _ hy).2.1 ha1
  obtain ⟨d, its, frs, whs, ods, lim⟩ := y
  have cq := hq _ _ _ hy ha1
  rw [Query.row_mk] at cq
  simp only [tt, seval]
  refine CallQ.intro (cq) ?_ ?_ ?_
  ·decide
  ·simp only [tt, seval, PB, told, List.cons_append, List.nil_append]
  rintro r os ⟨⟨Fi, Ff, Fw, Fo, rfl⟩, rfl⟩ hos
  simp only [tt, seval, PB, told, List.cons_append, List.nil_append]
  refine CallQ.intro (pmustSign_d L hL hT t 41 ht) ?_ ?_ ?_
  ·decide
  ·simp only [tt, seval, PB]
  rintro r os ⟨rfl, rfl⟩ hos
  simp only [tt, seval, PB]
  refine fun G0 => ?_
  refine fun G1 => ?_
  refine ⟨.ag (told (mKids 8 not [(Expr.mk k1 p1 n1 v1 q1 m1 ks1 ss1)] [(Query.mk d its frs whs ods lim)]).row [G0 :: (Ek ++ Es), G1 :: (Fi ++ (Ff ++ (Fw ++ Fo)))]), [PB L (must (isSg L t 41) t)], ⟨⟨_, _, rfl⟩, rfl⟩, endOk ?_⟩
  simp only [tt, seval, bae, PB, mLit, mCol, mKids, mUn, mBin, zExpr, zVal, z0, Expr.row_mk, Query.row_mk, List.flatMap_nil, List.flatMap_cons, List.append_nil, List.length_nil, List.length_cons, told, Val.row, List.cons_append, List.nil_append]
  first | done | exact pool_ok fun x => by simp only [List.flatten_append, List.flatten_cons, List.flatten_nil, List.count_append, List.append_nil, List.nil_append, List.count_nil]; omega | exact ⟨by omega, Sb.refl _⟩ | exact ⟨by omega, pool_ok fun x => by simp only [List.flatten_append, List.flatten_cons, List.flatten_nil, List.count_append, List.append_nil, List.nil_append, List.count_nil]; omega⟩
 | false =>
  rw [if_neg (by rw [c1]; simp)] at h
  split at h
  ·cases h
  rename_i l t hl
  injection h with h; injection h with h1 h2; subst h1 h2
  have ht := (OkM.ors ok _ _ _ hl).2.1 ha1
  have cl := pors_step L hL hT (ok 1) hor _ _ _ hl ha1
  simp only [tt, seval, Bool.false_eq_true]
  refine dDrawn.intro [24] (.take 0 (.take 2 (.br 1 (.br 3 (.br 4 (.take 5 (.br 6 .done .nobr)) .nobr) .nobr) (.br 3 (.take 1 (.br 4 (.take 5 (.br 6 .done .nobr)) .nobr)) .nobr)))) (by kernel_rfl) ?_
  simp only [tt, seval]
  all_goals repeat' first | refine brC ?_ ?_ | refine brC2 ?_ ?_
  all_goals
   refine CallQ.intro (cl) ?_ ?_ ?_
   ·decide
   ·simp only [tt, seval, PB, told, Val.row, List.cons_append, List.nil_append]
    try decide
   rintro r os ⟨⟨hlen, Fl, rfl⟩, rfl⟩ hos
   simp only [tt, seval, PB, told, Val.row, List.cons_append, List.nil_append]
  all_goals repeat' first | refine brA ?_ ?_ | refine brA2 ?_ ?_ | refine brA3 ?_ ?_
  all_goals
   refine ⟨by kernel_rfl, flatMap_len Expr.row_len l, ⟨by simp only [maxLen]; omega, by omega⟩, ?_⟩
   try simp only [tt, seval]
  all_goals
   refine CallQ.intro (pmustSign_d L hL hT t 41 ht) ?_ ?_ ?_
   ·decide
   ·simp only [tt, seval, PB]
   rintro r os ⟨rfl, rfl⟩ hos
   simp only [tt, seval, PB]
   refine fun G0 => ?_
   refine ⟨.ag (told (mKids 7 not ((Expr.mk k1 p1 n1 v1 q1 m1 ks1 ss1) :: l) []).row [G0 :: (Ek ++ Es ++ Fl), []]), [PB L (must (isSg L t 41) t)], ⟨⟨_, _, rfl⟩, rfl⟩, endOk ?_⟩
   simp only [tt, seval, bae, PB, mLit, mCol, mKids, mUn, mBin, zExpr, zVal, z0, Expr.row_mk, Query.row_mk, List.flatMap_nil, List.flatMap_cons, List.append_nil, List.length_nil, List.length_cons, told, Val.row, List.cons_append, List.nil_append]
   first | done | exact pool_ok fun x => by simp only [List.flatten_append, List.flatten_cons, List.flatten_nil, List.count_append, List.append_nil, List.nil_append, List.count_nil]; omega | exact ⟨by omega, Sb.refl _⟩ | exact ⟨by omega, pool_ok fun x => by simp only [List.flatten_append, List.flatten_cons, List.flatten_nil, List.count_append, List.append_nil, List.nil_append, List.count_nil]; omega⟩
theorem pIntValue_d (k : Int) : Cl Tryz.prog 357 [vi k] [] fun r _ => r = .ag (csOf (Val.mk 1 k z0).row) := by
 refine cl_of_d follows_mixed false Tryz.func357 rfl (by kernel_rfl) ?_
 simp only [Tryz.f357, tt, seval]
 refine ⟨.ag (csOf (Val.mk 1 k z0).row), [], rfl, endOk ?_⟩
 simp only [tt, seval, Val.row, z0, bae]
theorem pTextValue_d (s : ByteArray) : Cl Tryz.prog 358 [vs s] [] fun r _ => r = .ag (csOf (Val.mk 2 0 s).row) := by
 refine cl_of_d follows_mixed false Tryz.func358 rfl (by kernel_rfl) ?_
 simp only [Tryz.f358, tt, seval]
 refine ⟨.ag (csOf (Val.mk 2 0 s).row), [], rfl, endOk ?_⟩
 simp only [tt, seval, Val.row, z0, bae]
theorem pBoolValue_t : Cl Tryz.prog 359 [vb true] [] fun r _ => r = .ag (csOf (Val.mk 3 1 z0).row) := by
 refine cl_of_d follows_mixed false Tryz.func359 rfl (by kernel_rfl) ?_
 simp only [Tryz.f359, tt, seval]
 refine ⟨.ag (csOf (Val.mk 3 1 z0).row), [], rfl, endOk ?_⟩
 simp only [tt, seval, Val.row, z0, bae]
theorem pBoolValue_f : Cl Tryz.prog 359 [vb false] [] fun r _ => r = .ag (csOf (Val.mk 3 0 z0).row) := by
 refine cl_of_d follows_mixed false Tryz.func359 rfl (by kernel_rfl) ?_
 simp only [Tryz.f359, tt, seval]
 refine ⟨.ag (csOf (Val.mk 3 0 z0).row), [], rfl, endOk ?_⟩
 simp only [tt, seval, Val.row, z0, bae]
set_option maxHeartbeats 4000000 in
theorem pprim_step (L : List Tok) (hL : L.length ≤ 1048576) (hT : ∀ t ∈ L, t.text.size ≤ 1048576) {f : Nat → PM Expr} {q : PM Query} (ok1 : OkM (L := L) (f 1)) (okq : OkM (L := L) q) (hf : TpE L 42 (f 1)) (hq : TpQ L 54 q) : TpE L 348 (primM L f q) := by
 intro s e s' h ha
 have hts := text_small hL hT s
 unfold primM at h
 simp only at h
 refine cl_of_d follows_mixed true Tryz.func348 rfl (by kernel_rfl) ?_
 simp only [Tryz.f348, tt, seval]
 refine CallQ.intro (pisKind_d L hL hT s 3 ha) ?_ ?_ ?_
 ·decide
 ·simp only [tt, seval, PB]
 rintro r os ⟨rfl, rfl⟩ hos
 simp only [tt, seval, PB]
 cases c3 : isK L s 3 with
 | true =>
  rw [if_pos c3] at h
  injection h with h; injection h with h1 h2; subst h1 h2
  simp only [tt, seval]
  refine CallQ.intro (pmustNumber_d L hL hT s ha) ?_ ?_ ?_
  ·decide
  ·simp only [tt, seval, PB]
  rintro r os ⟨rfl, rfl⟩ hos
  simp only [tt, seval, PB]
  have hn : mNum L s = (numV (textAt L s), adv s) := by unfold mNum; rw [mt_yes c3]
  rw [hn]
  refine call0 (pIntValue_d (numV (textAt L s))) ?_ ?_ ?_
  ·decide
  ·simp only [tt, seval, Val.row]
  rintro r rfl
  simp only [tt, seval, Val.row]
  have cl := plit_d ⟨1, numV (textAt L s), z0⟩
  refine call0 (cl) ?_ ?_ ?_
  ·decide
  ·simp only [tt, seval, bae, PB, mLit, mCol, mKids, mUn, mBin, zExpr, zVal, z0, Expr.row_mk, Query.row_mk, List.flatMap_nil, List.flatMap_cons, List.append_nil, List.length_nil, List.length_cons, told, Val.row, List.cons_append, List.nil_append]
  rintro r rfl
  simp only [tt, seval, bae, PB, mLit, mCol, mKids, mUn, mBin, zExpr, zVal, z0, Expr.row_mk, Query.row_mk, List.flatMap_nil, List.flatMap_cons, List.append_nil, List.length_nil, List.length_cons, told, Val.row, List.cons_append, List.nil_append]
  refine ⟨.ag (told (mLit ⟨1, numV (textAt L s), z0⟩).row [[], []]), [PB L (adv s)], ⟨⟨[], [], rfl⟩, rfl⟩, endOk ?_⟩
  simp only [tt, seval, bae, PB, mLit, mCol, mKids, mUn, mBin, zExpr, zVal, z0, Expr.row_mk, Query.row_mk, List.flatMap_nil, List.flatMap_cons, List.append_nil, List.length_nil, List.length_cons, told, Val.row, List.cons_append, List.nil_append]
  first | done | exact pool_ok fun x => by simp only [List.flatten_append, List.flatten_cons, List.flatten_nil, List.count_append, List.append_nil, List.nil_append, List.count_nil]; omega | exact ⟨by omega, Sb.refl _⟩ | exact ⟨by omega, pool_ok fun x => by simp only [List.flatten_append, List.flatten_cons, List.flatten_nil, List.count_append, List.append_nil, List.nil_append, List.count_nil]; omega⟩
 | false =>
 rw [if_neg (by rw [c3]; simp)] at h
 simp only [tt, seval]
 refine CallQ.intro (pisKind_d L hL hT s 4 ha) ?_ ?_ ?_
 ·decide
 ·simp only [tt, seval, PB]
 rintro r os ⟨rfl, rfl⟩ hos
 simp only [tt, seval, PB]
 cases c4 : isK L s 4 with
 | true =>
  rw [if_pos c4] at h
  injection h with h; injection h with h1 h2; subst h1 h2
  simp only [tt, seval]
  refine CallQ.intro (pmustKind_d L hL hT s 4 ha) ?_ ?_ ?_
  ·decide
  ·simp only [tt, seval, PB]
  rintro r os ⟨rfl, rfl⟩ hos
  simp only [tt, seval, PB]
  rw [mt_yes c4]
  refine call0 (pTextValue_d (textAt L s)) ?_ ?_ ?_
  ·decide
  ·simp only [tt, seval, Val.row]
  rintro r rfl
  simp only [tt, seval, Val.row]
  have cl := plit_d ⟨2, 0, textAt L s⟩
  refine call0 (cl) ?_ ?_ ?_
  ·decide
  ·simp only [tt, seval, bae, PB, mLit, mCol, mKids, mUn, mBin, zExpr, zVal, z0, Expr.row_mk, Query.row_mk, List.flatMap_nil, List.flatMap_cons, List.append_nil, List.length_nil, List.length_cons, told, Val.row, List.cons_append, List.nil_append]
  rintro r rfl
  simp only [tt, seval, bae, PB, mLit, mCol, mKids, mUn, mBin, zExpr, zVal, z0, Expr.row_mk, Query.row_mk, List.flatMap_nil, List.flatMap_cons, List.append_nil, List.length_nil, List.length_cons, told, Val.row, List.cons_append, List.nil_append]
  refine ⟨.ag (told (mLit ⟨2, 0, textAt L s⟩).row [[], []]), [PB L (adv s)], ⟨⟨[], [], rfl⟩, rfl⟩, endOk ?_⟩
  simp only [tt, seval, bae, PB, mLit, mCol, mKids, mUn, mBin, zExpr, zVal, z0, Expr.row_mk, Query.row_mk, List.flatMap_nil, List.flatMap_cons, List.append_nil, List.length_nil, List.length_cons, told, Val.row, List.cons_append, List.nil_append]
  first | done | exact pool_ok fun x => by simp only [List.flatten_append, List.flatten_cons, List.flatten_nil, List.count_append, List.append_nil, List.nil_append, List.count_nil]; omega | exact ⟨by omega, Sb.refl _⟩ | exact ⟨by omega, pool_ok fun x => by simp only [List.flatten_append, List.flatten_cons, List.flatten_nil, List.count_append, List.append_nil, List.nil_append, List.count_nil]; omega⟩
 | false =>
 rw [if_neg (by rw [c4]; simp)] at h
 simp only [tt, seval]
 refine CallQ.intro (ptakeKey_d L hL hT s 20 ⟨#[78, 85, 76, 76]⟩ (by kernel_rfl) ha) ?_ ?_ ?_
 ·decide
 ·simp only [tt, seval, PB]
 rintro r os ⟨rfl, rfl⟩ hos
 simp only [tt, seval, PB]
 cases c20 : isKey L s 20 with
 | true =>
  rw [if_pos c20] at h
  injection h with h; injection h with h1 h2; subst h1 h2
  simp only [tt, seval, tkT, tkF, muT, muF]
  have cl := plit_d zVal
  refine call0 (cl) ?_ ?_ ?_
  ·decide
  ·simp only [tt, seval, bae, PB, mLit, mCol, mKids, mUn, mBin, zExpr, zVal, z0, Expr.row_mk, Query.row_mk, List.flatMap_nil, List.flatMap_cons, List.append_nil, List.length_nil, List.length_cons, told, Val.row, List.cons_append, List.nil_append]
  rintro r rfl
  simp only [tt, seval, bae, PB, mLit, mCol, mKids, mUn, mBin, zExpr, zVal, z0, Expr.row_mk, Query.row_mk, List.flatMap_nil, List.flatMap_cons, List.append_nil, List.length_nil, List.length_cons, told, Val.row, List.cons_append, List.nil_append]
  refine ⟨.ag (told (mLit zVal).row [[], []]), [PB L (adv s)], ⟨⟨[], [], rfl⟩, rfl⟩, endOk ?_⟩
  simp only [tt, seval, bae, PB, mLit, mCol, mKids, mUn, mBin, zExpr, zVal, z0, Expr.row_mk, Query.row_mk, List.flatMap_nil, List.flatMap_cons, List.append_nil, List.length_nil, List.length_cons, told, Val.row, List.cons_append, List.nil_append]
  first | done | exact pool_ok fun x => by simp only [List.flatten_append, List.flatten_cons, List.flatten_nil, List.count_append, List.append_nil, List.nil_append, List.count_nil]; omega | exact ⟨by omega, Sb.refl _⟩ | exact ⟨by omega, pool_ok fun x => by simp only [List.flatten_append, List.flatten_cons, List.flatten_nil, List.count_append, List.append_nil, List.nil_append, List.count_nil]; omega⟩
 | false =>
 rw [if_neg (by rw [c20]; simp)] at h
 simp only [tt, seval, tkT, tkF, muT, muF, Bool.false_eq_true]
 refine CallQ.intro (ptakeKey_d L hL hT s 21 ⟨#[84, 82, 85, 69]⟩ (by kernel_rfl) ha) ?_ ?_ ?_
 ·decide
 ·simp only [tt, seval, PB]
 rintro r os ⟨rfl, rfl⟩ hos
 simp only [tt, seval, PB]
 cases c21 : isKey L s 21 with
 | true =>
  rw [if_pos c21] at h
  injection h with h; injection h with h1 h2; subst h1 h2
  simp only [tt, seval, tkT, tkF, muT, muF]
  refine call0 (pBoolValue_t) ?_ ?_ ?_
  ·decide
  ·simp only [tt, seval, Val.row]
  rintro r rfl
  simp only [tt, seval, Val.row]
  have cl := plit_d ⟨3, 1, z0⟩
  refine call0 (cl) ?_ ?_ ?_
  ·decide
  ·simp only [tt, seval, bae, PB, mLit, mCol, mKids, mUn, mBin, zExpr, zVal, z0, Expr.row_mk, Query.row_mk, List.flatMap_nil, List.flatMap_cons, List.append_nil, List.length_nil, List.length_cons, told, Val.row, List.cons_append, List.nil_append]
  rintro r rfl
  simp only [tt, seval, bae, PB, mLit, mCol, mKids, mUn, mBin, zExpr, zVal, z0, Expr.row_mk, Query.row_mk, List.flatMap_nil, List.flatMap_cons, List.append_nil, List.length_nil, List.length_cons, told, Val.row, List.cons_append, List.nil_append]
  refine ⟨.ag (told (mLit ⟨3, 1, z0⟩).row [[], []]), [PB L (adv s)], ⟨⟨[], [], rfl⟩, rfl⟩, endOk ?_⟩
  simp only [tt, seval, bae, PB, mLit, mCol, mKids, mUn, mBin, zExpr, zVal, z0, Expr.row_mk, Query.row_mk, List.flatMap_nil, List.flatMap_cons, List.append_nil, List.length_nil, List.length_cons, told, Val.row, List.cons_append, List.nil_append]
  first | done | exact pool_ok fun x => by simp only [List.flatten_append, List.flatten_cons, List.flatten_nil, List.count_append, List.append_nil, List.nil_append, List.count_nil]; omega | exact ⟨by omega, Sb.refl _⟩ | exact ⟨by omega, pool_ok fun x => by simp only [List.flatten_append, List.flatten_cons, List.flatten_nil, List.count_append, List.append_nil, List.nil_append, List.count_nil]; omega⟩
 | false =>
 rw [if_neg (by rw [c21]; simp)] at h
 simp only [tt, seval, tkT, tkF, muT, muF, Bool.false_eq_true]
 refine CallQ.intro (ptakeKey_d L hL hT s 22 ⟨#[70, 65, 76, 83, 69]⟩ (by kernel_rfl) ha) ?_ ?_ ?_
 ·decide
 ·simp only [tt, seval, PB]
 rintro r os ⟨rfl, rfl⟩ hos
 simp only [tt, seval, PB]
 cases c22 : isKey L s 22 with
 | true =>
  rw [if_pos c22] at h
  injection h with h; injection h with h1 h2; subst h1 h2
  simp only [tt, seval, tkT, tkF, muT, muF]
  refine call0 (pBoolValue_f) ?_ ?_ ?_
  ·decide
  ·simp only [tt, seval, Val.row]
  rintro r rfl
  simp only [tt, seval, Val.row]
  have cl := plit_d ⟨3, 0, z0⟩
  refine call0 (cl) ?_ ?_ ?_
  ·decide
  ·simp only [tt, seval, bae, PB, mLit, mCol, mKids, mUn, mBin, zExpr, zVal, z0, Expr.row_mk, Query.row_mk, List.flatMap_nil, List.flatMap_cons, List.append_nil, List.length_nil, List.length_cons, told, Val.row, List.cons_append, List.nil_append]
  rintro r rfl
  simp only [tt, seval, bae, PB, mLit, mCol, mKids, mUn, mBin, zExpr, zVal, z0, Expr.row_mk, Query.row_mk, List.flatMap_nil, List.flatMap_cons, List.append_nil, List.length_nil, List.length_cons, told, Val.row, List.cons_append, List.nil_append]
  refine ⟨.ag (told (mLit ⟨3, 0, z0⟩).row [[], []]), [PB L (adv s)], ⟨⟨[], [], rfl⟩, rfl⟩, endOk ?_⟩
  simp only [tt, seval, bae, PB, mLit, mCol, mKids, mUn, mBin, zExpr, zVal, z0, Expr.row_mk, Query.row_mk, List.flatMap_nil, List.flatMap_cons, List.append_nil, List.length_nil, List.length_cons, told, Val.row, List.cons_append, List.nil_append]
  first | done | exact pool_ok fun x => by simp only [List.flatten_append, List.flatten_cons, List.flatten_nil, List.count_append, List.append_nil, List.nil_append, List.count_nil]; omega | exact ⟨by omega, Sb.refl _⟩ | exact ⟨by omega, pool_ok fun x => by simp only [List.flatten_append, List.flatten_cons, List.flatten_nil, List.count_append, List.append_nil, List.nil_append, List.count_nil]; omega⟩
 | false =>
 rw [if_neg (by rw [c22]; simp)] at h
 simp only [tt, seval, tkT, tkF, muT, muF, Bool.false_eq_true]
 refine CallQ.intro (pisKind_d L hL hT s 2 ha) ?_ ?_ ?_
 ·decide
 ·simp only [tt, seval, PB]
 rintro r os ⟨rfl, rfl⟩ hos
 simp only [tt, seval, PB]
 cases c2 : isK L s 2 with
 | true =>
  rw [if_pos c2] at h
  simp only [tt, seval]
  refine CallQ.intro (pmustKind_d L hL hT s 2 ha) ?_ ?_ ?_
  ·decide
  ·simp only [tt, seval, PB]
  rintro r os ⟨rfl, rfl⟩ hos
  simp only [tt, seval, PB]
  rw [mt_yes c2]
  simp only [tt, seval]
  have ha1 := adv_le (L := L) (isK_lt c2)
  refine CallQ.intro (ptakeSign_d L hL hT (adv s) 46 ha1) ?_ ?_ ?_
  ·decide
  ·simp only [tt, seval, PB]
  rintro r os ⟨rfl, rfl⟩ hos
  simp only [tt, seval, PB]
  cases cd : isSg L (adv s) 46 with
  | true =>
   rw [if_pos cd] at h
   injection h with h; injection h with h1 h2; subst h1 h2
   simp only [tt, seval, tkT, tkF, muT, muF]
   refine CallQ.intro (pmustKind_d L hL hT (adv (adv s)) 2 (adv_le (isSg_lt cd))) ?_ ?_ ?_
   ·decide
   ·simp only [tt, seval, PB]
   rintro r os ⟨rfl, rfl⟩ hos
   simp only [tt, seval, PB]
   refine ⟨.ag (told (mCol (textAt L s) (mText L 2 (adv (adv s))).1).row [[], []]), [PB L ((mText L 2 (adv (adv s))).2)], ⟨⟨[], [], rfl⟩, rfl⟩, endOk ?_⟩
   simp only [tt, seval, bae, PB, mLit, mCol, mKids, mUn, mBin, zExpr, zVal, z0, Expr.row_mk, Query.row_mk, List.flatMap_nil, List.flatMap_cons, List.append_nil, List.length_nil, List.length_cons, told, Val.row, List.cons_append, List.nil_append]
   first | done | exact pool_ok fun x => by simp only [List.flatten_append, List.flatten_cons, List.flatten_nil, List.count_append, List.append_nil, List.nil_append, List.count_nil]; omega | exact ⟨by omega, Sb.refl _⟩ | exact ⟨by omega, pool_ok fun x => by simp only [List.flatten_append, List.flatten_cons, List.flatten_nil, List.count_append, List.append_nil, List.nil_append, List.count_nil]; omega⟩
  | false =>
   rw [if_neg (by rw [cd]; simp)] at h
   injection h with h; injection h with h1 h2; subst h1 h2
   simp only [tt, seval, tkT, tkF, muT, muF, Bool.false_eq_true]
   refine ⟨.ag (told (mCol z0 (textAt L s)).row [[], []]), [PB L (adv s)], ⟨⟨[], [], rfl⟩, rfl⟩, endOk ?_⟩
   simp only [tt, seval, bae, PB, mLit, mCol, mKids, mUn, mBin, zExpr, zVal, z0, Expr.row_mk, Query.row_mk, List.flatMap_nil, List.flatMap_cons, List.append_nil, List.length_nil, List.length_cons, told, Val.row, List.cons_append, List.nil_append]
   first | done | exact pool_ok fun x => by simp only [List.flatten_append, List.flatten_cons, List.flatten_nil, List.count_append, List.append_nil, List.nil_append, List.count_nil]; omega | exact ⟨by omega, Sb.refl _⟩ | exact ⟨by omega, pool_ok fun x => by simp only [List.flatten_append, List.flatten_cons, List.flatten_nil, List.count_append, List.append_nil, List.nil_append, List.count_nil]; omega⟩
 | false =>
 rw [if_neg (by rw [c2]; simp)] at h
 simp only [tt, seval, Bool.false_eq_true]
 refine CallQ.intro (ptakeSign_d L hL hT s 40 ha) ?_ ?_ ?_
 ·decide
 ·simp only [tt, seval, PB]
 rintro r os ⟨rfl, rfl⟩ hos
 simp only [tt, seval, PB]
 cases cl : isSg L s 40 with
 | true =>
  rw [if_pos cl] at h
  have ha1 := adv_le (L := L) (isSg_lt cl)
  split at h
  ·cases h
  rename_i x t hx
  injection h with h; injection h with h1 h2; subst h1 h2
  have o2 := ok1 _ _ _ hx
  obtain ⟨k1, p1, n1, v1, q1, m1, ks1, ss1⟩ := x
  have c := hf _ _ _ hx ha1
  rw [Expr.row_mk] at c
  simp only [tt, seval, tkT, tkF, muT, muF]
  refine CallQ.intro (c) ?_ ?_ ?_
  ·decide
  ·simp only [tt, seval, PB, told, Val.row, List.cons_append, List.nil_append]
  rintro r os ⟨⟨Fk, Fs, rfl⟩, rfl⟩ hos
  simp only [tt, seval, PB, told, Val.row, List.cons_append, List.nil_append]
  refine CallQ.intro (pmustSign_d L hL hT t 41 (o2.2.1 ha1)) ?_ ?_ ?_
  ·decide
  ·simp only [tt, seval, PB]
  rintro r os ⟨rfl, rfl⟩ hos
  simp only [tt, seval, PB]
  refine ⟨.ag (told ((Expr.mk k1 p1 n1 v1 q1 m1 ks1 ss1)).row [Fk, Fs]), [PB L (must (isSg L t 41) t)], ⟨⟨Fk, Fs, by first | rfl | simp only [bae, PB, mLit, mCol, mKids, mUn, mBin, zExpr, zVal, z0, Expr.row_mk, Query.row_mk, List.flatMap_nil, List.flatMap_cons, List.append_nil, List.length_nil, List.length_cons, told, Val.row, List.cons_append, List.nil_append]⟩, rfl⟩, endOk ?_⟩
  simp only [tt, seval, bae, PB, mLit, mCol, mKids, mUn, mBin, zExpr, zVal, z0, Expr.row_mk, Query.row_mk, List.flatMap_nil, List.flatMap_cons, List.append_nil, List.length_nil, List.length_cons, told, Val.row, List.cons_append, List.nil_append]
  first | done | exact pool_ok fun x => by simp only [List.flatten_append, List.flatten_cons, List.flatten_nil, List.count_append, List.append_nil, List.nil_append, List.count_nil]; omega | exact ⟨by omega, Sb.refl _⟩ | exact ⟨by omega, pool_ok fun x => by simp only [List.flatten_append, List.flatten_cons, List.flatten_nil, List.count_append, List.append_nil, List.nil_append, List.count_nil]; omega⟩
 | false =>
 rw [if_neg (by rw [cl]; simp)] at h
 simp only [tt, seval, tkT, tkF, muT, muF, Bool.false_eq_true]
 refine CallQ.intro (ptakeKey_d L hL hT s 19 ⟨#[69, 88, 73, 83, 84, 83]⟩ (by kernel_rfl) ha) ?_ ?_ ?_
 ·decide
 ·simp only [tt, seval, PB]
 rintro r os ⟨rfl, rfl⟩ hos
 simp only [tt, seval, PB]
 cases c19 : isKey L s 19 with
 | true =>
  rw [if_pos c19] at h
  simp only [tt, seval, tkT, tkF, muT, muF]
  have ha1 := adv_le (L := L) (isKey_lt c19)
  have o1 : Ok L (adv s) (must (isSg L (adv s) 40) (adv s)) := Ok.must fun h => isSg_lt h
  refine CallQ.intro (pmustSign_d L hL hT (adv s) 40 ha1) ?_ ?_ ?_
  ·decide
  ·simp only [tt, seval, PB]
  rintro r os ⟨rfl, rfl⟩ hos
  simp only [tt, seval, PB]
  split at h
  ·cases h
  rename_i x t hx
  injection h with h; injection h with h1 h2; subst h1 h2
  have o2 := okq _ _ _ hx
  obtain ⟨d, its, frs, whs, ods, lim⟩ := x
  have c := hq _ _ _ hx (o1.2.1 ha1)
  rw [Query.row_mk] at c
  refine CallQ.intro (c) ?_ ?_ ?_
  ·decide
  ·simp only [tt, seval, PB, told, List.cons_append, List.nil_append]
  rintro r os ⟨⟨Fi, Ff, Fw, Fo, rfl⟩, rfl⟩ hos
  simp only [tt, seval, PB, told, List.cons_append, List.nil_append]
  refine CallQ.intro (pmustSign_d L hL hT t 41 (o2.2.1 (o1.2.1 ha1))) ?_ ?_ ?_
  ·decide
  ·simp only [tt, seval, PB]
  rintro r os ⟨rfl, rfl⟩ hos
  simp only [tt, seval, PB]
  refine fun G0 => ?_
  refine ⟨.ag (told (mKids 9 false [] [(Query.mk d its frs whs ods lim)]).row [[], G0 :: (Fi ++ (Ff ++ (Fw ++ Fo)))]), [PB L (must (isSg L t 41) t)], ⟨⟨_, _, rfl⟩, rfl⟩, endOk ?_⟩
  simp only [tt, seval, bae, PB, mLit, mCol, mKids, mUn, mBin, zExpr, zVal, z0, Expr.row_mk, Query.row_mk, List.flatMap_nil, List.flatMap_cons, List.append_nil, List.length_nil, List.length_cons, told, Val.row, List.cons_append, List.nil_append]
  first | done | exact pool_ok fun x => by simp only [List.flatten_append, List.flatten_cons, List.flatten_nil, List.count_append, List.append_nil, List.nil_append, List.count_nil]; omega | exact ⟨by omega, Sb.refl _⟩ | exact ⟨by omega, pool_ok fun x => by simp only [List.flatten_append, List.flatten_cons, List.flatten_nil, List.count_append, List.append_nil, List.nil_append, List.count_nil]; omega⟩
 | false =>
  rw [if_neg (by rw [c19]; simp)] at h
  injection h with h; injection h with h1 h2; subst h1 h2
  simp only [tt, seval, tkT, tkF, muT, muF, Bool.false_eq_true, fl]
  refine ⟨.ag (told (zExpr).row [[], []]), [PB L (fl s)], ⟨⟨[], [], rfl⟩, rfl⟩, endOk ?_⟩
  simp only [tt, seval, fl, bae, PB, mLit, mCol, mKids, mUn, mBin, zExpr, zVal, z0, Expr.row_mk, Query.row_mk, List.flatMap_nil, List.flatMap_cons, List.append_nil, List.length_nil, List.length_cons, told, Val.row, List.cons_append, List.nil_append]
  first | done | exact pool_ok fun x => by simp only [List.flatten_append, List.flatten_cons, List.flatten_nil, List.count_append, List.append_nil, List.nil_append, List.count_nil]; omega | exact ⟨by omega, Sb.refl _⟩ | exact ⟨by omega, pool_ok fun x => by simp only [List.flatten_append, List.flatten_cons, List.flatten_nil, List.count_append, List.append_nil, List.nil_append, List.count_nil]; omega⟩
set_option maxHeartbeats 8000000 in
theorem pcmp_step (L : List Tok) (hL : L.length ≤ 1048576) (hT : ∀ t ∈ L, t.text.size ≤ 1048576) {f : Nat → PM Expr} {q : PM Query} (ok : ∀ lv, OkM (L := L) (f lv)) (okq : OkM (L := L) q) (hor : TpE L 42 (f 1)) (hc : TpE L 266 (f 5)) (hq : TpQ L 54 q) : TpE L 223 (stepE L f q 4) := by
 intro s x s' h ha
 have h : cmpM L f q s = some (x, s') := h
 unfold cmpM at h
 split at h
 ·cases h
 rename_i e s1 he
 have ha1 := (ok 5 _ _ _ he).2.1 ha
 obtain ⟨k1, p1, n1, v1, q1, m1, ks1, ss1⟩ := e
 have c1 := hc _ _ _ he ha
 rw [Expr.row_mk] at c1
 refine cl_of_d follows_mixed true Tryz.func223 rfl (by kernel_rfl) ?_
 simp only [Tryz.f223, tt, seval]
 refine CallQ.intro (c1) ?_ ?_ ?_
 ·decide
 ·simp only [tt, seval, PB, told, Val.row, List.cons_append, List.nil_append]
 rintro r os ⟨⟨Fk, Fs, rfl⟩, rfl⟩ hos
 simp only [tt, seval, PB, told, Val.row, List.cons_append, List.nil_append]
 have co := ptakeOp_d L hL hT s1 (opsL 4) (by decide) (by decide) ha1
 have hop0 : opIn L s1 (opsL 4) = opAt L s1 4 := rfl
 rw [hop0] at co
 simp only [ops4] at co
 refine callF [11] ?_
 simp only [tt, seval, PB, nrow, List.flatMap_cons, List.flatMap_nil, List.length_cons, List.length_nil, told, Val.row, List.cons_append, List.nil_append]
 refine fun G => ?_
 refine Call1.intro (co) ?_ ?_ ?_
 ·decide
 ·simp only [tt, seval, PB, nrow, List.flatMap_cons, List.flatMap_nil, List.length_cons, List.length_nil, told, Val.row, List.cons_append, List.nil_append]
 rintro r os ⟨rfl, rfl⟩ hos
 simp only [tt, seval, PB, nrow, List.flatMap_cons, List.flatMap_nil, List.length_cons, List.length_nil, told, Val.row, List.cons_append, List.nil_append]
 by_cases hop : opAt L s1 4 = 0
 ·rw [if_pos hop] at h
  have e0 : decide (¬ ((opAt L s1 4 : Nat) : Int) = 0) = false := decide_eq_false (by omega)
  have e0' : (((opAt L s1 4 : Nat) : Int) = 0) = True := eq_true (by omega)
  have e1 : decide (¬ opAt L s1 4 = 0) = false := decide_eq_false (by omega)
  simp only [tt, seval, e0, e0', e1, tkF, told, Val.row, List.cons_append, List.nil_append]
  unfold cmpT at h
  simp only at h
  refine CallQ.intro (ptakeKey_d L hL hT s1 16 ⟨#[73, 83]⟩ (by kernel_rfl) ha1) ?_ ?_ ?_
  ·decide
  ·simp only [tt, seval, PB, told, Val.row, List.cons_append, List.nil_append]
  rintro r os ⟨rfl, rfl⟩ hos
  simp only [tt, seval, PB, told, Val.row, List.cons_append, List.nil_append]
  cases c16 : isKey L s1 16 with
  | true =>
   rw [if_pos c16] at h
   have hav := adv_le (L := L) (isKey_lt c16)
   simp only [tt, seval, tkT, tkF, muT, muF]
   refine CallQ.intro (ptakeKey_d L hL hT (adv s1) 15 ⟨#[78, 79, 84]⟩ (by kernel_rfl) hav) ?_ ?_ ?_
   ·decide
   ·simp only [tt, seval, PB, told, Val.row, List.cons_append, List.nil_append]
   rintro r os ⟨rfl, rfl⟩ hos
   simp only [tt, seval, PB, told, Val.row, List.cons_append, List.nil_append]
   have o2 : Ok L (adv s1) (tkIf (isKey L (adv s1) 15) (adv s1)) := Ok.tkIf fun h => isKey_lt h
   have ha2 := o2.2.1 hav
   generalize tkIf (isKey L (adv s1) 15) (adv s1) = s2 at *
   generalize isKey L (adv s1) 15 = nn at *
   refine CallQ.intro (pmustKey_d L hL hT s2 20 ⟨#[78, 85, 76, 76]⟩ (by kernel_rfl) ha2) ?_ ?_ ?_
   ·decide
   ·simp only [tt, seval, PB, told, Val.row, List.cons_append, List.nil_append]
   rintro r os ⟨rfl, rfl⟩ hos
   simp only [tt, seval, PB, told, Val.row, List.cons_append, List.nil_append]
   injection h with h; injection h with h1 h2; subst h1 h2
   refine fun G0 => ?_
   refine ⟨.ag (told (mKids 5 nn [(Expr.mk k1 p1 n1 v1 q1 m1 ks1 ss1)] []).row [G0 :: (Fk ++ Fs), []]), [PB L (must (isKey L s2 20) s2)], ⟨⟨_, _, rfl⟩, rfl⟩, endOk ?_⟩
   simp only [tt, seval, bae, PB, mLit, mCol, mKids, mUn, mBin, zExpr, zVal, z0, Expr.row_mk, Query.row_mk, List.flatMap_nil, List.flatMap_cons, List.append_nil, List.length_nil, List.length_cons, told, Val.row, List.cons_append, List.nil_append]
   first | done | exact pool_ok fun x => by simp only [List.flatten_append, List.flatten_cons, List.flatten_nil, List.count_append, List.append_nil, List.nil_append, List.count_nil]; omega | exact ⟨by omega, Sb.refl _⟩ | exact ⟨by omega, pool_ok fun x => by simp only [List.flatten_append, List.flatten_cons, List.flatten_nil, List.count_append, List.append_nil, List.nil_append, List.count_nil]; omega⟩
  | false =>
  rw [if_neg (by rw [c16]; simp)] at h
  simp only [tt, seval, tkT, tkF, muT, muF, Bool.false_eq_true]
  refine CallQ.intro (ptakeKey_d L hL hT s1 15 ⟨#[78, 79, 84]⟩ (by kernel_rfl) ha1) ?_ ?_ ?_
  ·decide
  ·simp only [tt, seval, PB, told, Val.row, List.cons_append, List.nil_append]
  rintro r os ⟨rfl, rfl⟩ hos
  simp only [tt, seval, PB, told, Val.row, List.cons_append, List.nil_append]
  have o2 : Ok L s1 (tkIf (isKey L s1 15) s1) := Ok.tkIf fun h => isKey_lt h
  have ha2 := o2.2.1 ha1
  generalize tkIf (isKey L s1 15) s1 = s2 at *
  generalize isKey L s1 15 = nn at *
  refine CallQ.intro (ptakeKey_d L hL hT s2 18 ⟨#[66, 69, 84, 87, 69, 69, 78]⟩ (by kernel_rfl) ha2) ?_ ?_ ?_
  ·decide
  ·simp only [tt, seval, PB, told, Val.row, List.cons_append, List.nil_append]
  rintro r os ⟨rfl, rfl⟩ hos
  simp only [tt, seval, PB, told, Val.row, List.cons_append, List.nil_append]
  cases c18 : isKey L s2 18 with
  | true =>
   rw [if_pos c18] at h
   split at h
   ·cases h
   rename_i lo s3 hlo
   split at h
   ·cases h
   rename_i hi s4 hhi
   injection h with h; injection h with h1 h2; subst h1 h2
   have hav := adv_le (L := L) (isKey_lt c18)
   have ha3 := (ok 5 _ _ _ hlo).2.1 hav
   obtain ⟨k2, p2, n2, v2, q2, m2, ks2, ss2⟩ := lo
   have c2 := hc _ _ _ hlo hav
   rw [Expr.row_mk] at c2
   simp only [tt, seval, tkT, tkF, muT, muF]
   refine CallQ.intro (c2) ?_ ?_ ?_
   ·decide
   ·simp only [tt, seval, PB, told, Val.row, List.cons_append, List.nil_append]
   rintro r os ⟨⟨Gk, Gs, rfl⟩, rfl⟩ hos
   simp only [tt, seval, PB, told, Val.row, List.cons_append, List.nil_append]
   refine CallQ.intro (pmustKey_d L hL hT s3 13 ⟨#[65, 78, 68]⟩ (by kernel_rfl) ha3) ?_ ?_ ?_
   ·decide
   ·simp only [tt, seval, PB, told, Val.row, List.cons_append, List.nil_append]
   rintro r os ⟨rfl, rfl⟩ hos
   simp only [tt, seval, PB, told, Val.row, List.cons_append, List.nil_append]
   have o3 : Ok L s3 (must (isKey L s3 13) s3) := Ok.must fun h => isKey_lt h
   have ha4 := o3.2.1 ha3
   generalize must (isKey L s3 13) s3 = s5 at *
   obtain ⟨k3, p3, n3, v3, q3, m3, ks3, ss3⟩ := hi
   have c3 := hc _ _ _ hhi ha4
   rw [Expr.row_mk] at c3
   refine dDrawn.intro [43] (.take 0 (.take 3 (.br 1 (.br 2 (.br 4 (.br 5 (.take 6 (.br 7 .done .nobr)) .nobr) .nobr) (.br 4 (.take 2 (.br 5 (.take 6 (.br 7 .done .nobr)) .nobr)) .nobr)) (.br 2 (.br 1 (.br 4 (.br 5 (.take 6 (.br 7 .done .nobr)) .nobr) .nobr) (.br 4 (.take 1 (.br 5 (.take 6 (.br 7 .done .nobr)) .nobr)) .nobr)) (.br 4 (.take 1 (.take 2 (.br 5 (.take 6 (.br 7 .done .nobr)) .nobr))) .nobr))))) (by kernel_rfl) ?_
   simp only [tt, seval]
   all_goals repeat' first | refine brC ?_ ?_ | refine brC2 ?_ ?_
   all_goals
    refine CallQ.intro (c3) ?_ ?_ ?_
    ·decide
    ·simp only [tt, seval, PB, told, Val.row, List.cons_append, List.nil_append]
     try decide
    rintro r os ⟨⟨Hk, Hs, rfl⟩, rfl⟩ hos
    simp only [tt, seval, PB, told, Val.row, List.cons_append, List.nil_append]
   all_goals
    refine fun G0 => ?_
    refine ⟨.ag (told (mKids 6 nn [(Expr.mk k1 p1 n1 v1 q1 m1 ks1 ss1), (Expr.mk k2 p2 n2 v2 q2 m2 ks2 ss2), (Expr.mk k3 p3 n3 v3 q3 m3 ks3 ss3)] []).row [G0 :: (Fk ++ (Fs ++ (Gk ++ (Gs ++ (Hk ++ Hs))))), []]), [PB L (s4)], ⟨⟨_, _, rfl⟩, rfl⟩, endOk ?_⟩
    simp only [tt, seval, bae, PB, mLit, mCol, mKids, mUn, mBin, zExpr, zVal, z0, Expr.row_mk, Query.row_mk, List.flatMap_nil, List.flatMap_cons, List.append_nil, List.length_nil, List.length_cons, told, Val.row, List.cons_append, List.nil_append]
    first | done | exact pool_ok fun x => by simp only [List.flatten_append, List.flatten_cons, List.flatten_nil, List.count_append, List.append_nil, List.nil_append, List.count_nil]; omega | exact ⟨by omega, Sb.refl _⟩ | exact ⟨by omega, pool_ok fun x => by simp only [List.flatten_append, List.flatten_cons, List.flatten_nil, List.count_append, List.append_nil, List.nil_append, List.count_nil]; omega⟩
  | false =>
  rw [if_neg (by rw [c18]; simp)] at h
  simp only [tt, seval, tkT, tkF, muT, muF, Bool.false_eq_true]
  refine CallQ.intro (ptakeKey_d L hL hT s2 17 ⟨#[73, 78]⟩ (by kernel_rfl) ha2) ?_ ?_ ?_
  ·decide
  ·simp only [tt, seval, PB, told, Val.row, List.cons_append, List.nil_append]
  rintro r os ⟨rfl, rfl⟩ hos
  simp only [tt, seval, PB, told, Val.row, List.cons_append, List.nil_append]
  cases c17 : isKey L s2 17 with
  | true =>
   rw [if_pos c17] at h
   have hav := adv_le (L := L) (isKey_lt c17)
   have ci := pin_step L hL hT ok okq hor hq (Expr.mk k1 p1 n1 v1 q1 m1 ks1 ss1) nn Fk Fs (adv s2) x s' h hav
   obtain ⟨k2, p2, n2, v2, q2, m2, ks2, ss2⟩ := x
   simp only [Expr.row_mk, told, Val.row, List.cons_append, List.nil_append] at ci
   simp only [tt, seval, tkT, tkF, muT, muF]
   refine callT ([G]) (ci) ?_ ?_ ?_ ?_
   ·decide
   ·simp only [tt, seval, PB, told, Val.row, List.cons_append, List.nil_append]
    try decide
   ·exact fun x => by simp only [List.flatten_append, List.flatten_cons, List.flatten_nil, List.count_append, List.append_nil, List.nil_append, List.count_nil]; omega
   rintro r os ⟨⟨Hk, Hs, rfl⟩, rfl⟩ hos
   simp only [tt, seval, PB, told, Val.row, List.cons_append, List.nil_append]
   refine ⟨.ag (told ((Expr.mk k2 p2 n2 v2 q2 m2 ks2 ss2)).row [Hk, Hs]), [PB L (s')], ⟨⟨Hk, Hs, by first | rfl | simp only [bae, PB, mLit, mCol, mKids, mUn, mBin, zExpr, zVal, z0, Expr.row_mk, Query.row_mk, List.flatMap_nil, List.flatMap_cons, List.append_nil, List.length_nil, List.length_cons, told, Val.row, List.cons_append, List.nil_append]⟩, rfl⟩, endOk ?_⟩
   simp only [tt, seval, bae, PB, mLit, mCol, mKids, mUn, mBin, zExpr, zVal, z0, Expr.row_mk, Query.row_mk, List.flatMap_nil, List.flatMap_cons, List.append_nil, List.length_nil, List.length_cons, told, Val.row, List.cons_append, List.nil_append]
   first | done | exact pool_ok fun x => by simp only [List.flatten_append, List.flatten_cons, List.flatten_nil, List.count_append, List.append_nil, List.nil_append, List.count_nil]; omega | exact ⟨by omega, Sb.refl _⟩ | exact ⟨by omega, pool_ok fun x => by simp only [List.flatten_append, List.flatten_cons, List.flatten_nil, List.count_append, List.append_nil, List.nil_append, List.count_nil]; omega⟩
  | false =>
   rw [if_neg (by rw [c17]; simp)] at h
   injection h with h; injection h with h1 h2; subst h1 h2
   simp only [tt, seval, tkT, tkF, muT, muF, Bool.false_eq_true]
   obtain ⟨a2, b2⟩ := s2
   cases b2 with
   | true =>
    simp only [tt, seval]
    refine ⟨.ag (told ((Expr.mk k1 p1 n1 v1 q1 m1 ks1 ss1)).row [Fk, Fs]), [PB L (⟨a2, true⟩)], ⟨⟨Fk, Fs, by first | rfl | simp only [bae, PB, mLit, mCol, mKids, mUn, mBin, zExpr, zVal, z0, Expr.row_mk, Query.row_mk, List.flatMap_nil, List.flatMap_cons, List.append_nil, List.length_nil, List.length_cons, told, Val.row, List.cons_append, List.nil_append]⟩, rfl⟩, endOk ?_⟩
    simp only [tt, seval, bae, PB, mLit, mCol, mKids, mUn, mBin, zExpr, zVal, z0, Expr.row_mk, Query.row_mk, List.flatMap_nil, List.flatMap_cons, List.append_nil, List.length_nil, List.length_cons, told, Val.row, List.cons_append, List.nil_append]
    first | done | exact pool_ok fun x => by simp only [List.flatten_append, List.flatten_cons, List.flatten_nil, List.count_append, List.append_nil, List.nil_append, List.count_nil]; omega | exact ⟨by omega, Sb.refl _⟩ | exact ⟨by omega, pool_ok fun x => by simp only [List.flatten_append, List.flatten_cons, List.flatten_nil, List.count_append, List.append_nil, List.nil_append, List.count_nil]; omega⟩
   | false =>
    simp only [tt, seval]
    refine ⟨.ag (told ((Expr.mk k1 p1 n1 v1 q1 m1 ks1 ss1)).row [Fk, Fs]), [PB L (⟨a2, false || nn⟩)], ⟨⟨Fk, Fs, by first | rfl | simp only [bae, PB, mLit, mCol, mKids, mUn, mBin, zExpr, zVal, z0, Expr.row_mk, Query.row_mk, List.flatMap_nil, List.flatMap_cons, List.append_nil, List.length_nil, List.length_cons, told, Val.row, List.cons_append, List.nil_append]⟩, rfl⟩, endOk ?_⟩
    simp only [tt, seval, bae, PB, mLit, mCol, mKids, mUn, mBin, zExpr, zVal, z0, Expr.row_mk, Query.row_mk, List.flatMap_nil, List.flatMap_cons, List.append_nil, List.length_nil, List.length_cons, told, Val.row, List.cons_append, List.nil_append, Bool.false_or]
    first | done | exact pool_ok fun x => by simp only [List.flatten_append, List.flatten_cons, List.flatten_nil, List.count_append, List.append_nil, List.nil_append, List.count_nil]; omega | exact ⟨by omega, Sb.refl _⟩ | exact ⟨by omega, pool_ok fun x => by simp only [List.flatten_append, List.flatten_cons, List.flatten_nil, List.count_append, List.append_nil, List.nil_append, List.count_nil]; omega⟩
 ·rw [if_neg hop] at h
  split at h
  ·cases h
  rename_i z u hz
  injection h with h; injection h with h1 h2; subst h1 h2
  have hav := adv_le (L := L) (opAt_lt hop)
  obtain ⟨k2, p2, n2, v2, q2, m2, ks2, ss2⟩ := z
  have c2 := hc _ _ _ hz hav
  rw [Expr.row_mk] at c2
  have cb := fun Gk Gs => pbin_d (opAt L s1 4) (Expr.mk k1 p1 n1 v1 q1 m1 ks1 ss1) (Expr.mk k2 p2 n2 v2 q2 m2 ks2 ss2) Fk Fs Gk Gs
  simp only [Expr.row_mk, told, Val.row, List.cons_append, List.nil_append] at cb
  have e0 : decide (¬ ((opAt L s1 4 : Nat) : Int) = 0) = true := decide_eq_true (by omega)
  have e0' : (((opAt L s1 4 : Nat) : Int) = 0) = False := eq_false (by omega)
  have e1 : decide (¬ opAt L s1 4 = 0) = true := decide_eq_true (by omega)
  simp only [tt, seval, e0, e0', e1, tkT, told, Val.row, List.cons_append, List.nil_append]
  refine dDrawn.intro [18] (.take 0 (.take 2 (.br 1 (.br 3 (.br 4 (.br 5 .done .nobr) .nobr) .nobr) (.br 3 (.take 1 (.br 4 (.br 5 .done .nobr) .nobr)) .nobr)))) (by kernel_rfl) ?_
  simp only [tt, seval]
  all_goals repeat' first | refine brC ?_ ?_ | refine brC2 ?_ ?_
  all_goals
   refine CallQ.intro (c2) ?_ ?_ ?_
   ·decide
   ·simp only [tt, seval, PB, told, Val.row, List.cons_append, List.nil_append]
    try decide
   rintro r os ⟨⟨Gk, Gs, rfl⟩, rfl⟩ hos
   simp only [tt, seval, PB, told, Val.row, List.cons_append, List.nil_append]
  all_goals repeat' first | refine brC ?_ ?_ | refine brC2 ?_ ?_
  all_goals
   refine callT ([G]) (cb Gk Gs) ?_ ?_ ?_ ?_
   ·decide
   ·simp only [tt, seval, PB, mBin, Expr.row_mk, told, Val.row, List.cons_append, List.nil_append]
    try decide
   ·exact fun x => by simp only [List.flatten_append, List.flatten_cons, List.flatten_nil, List.count_append, List.append_nil, List.nil_append, List.count_nil]; omega
   rintro r os ⟨rfl, Hk, Hs, rfl⟩ hos
   simp only [tt, seval, PB, mBin, Expr.row_mk, told, Val.row, List.cons_append, List.nil_append]
  all_goals
   refine ⟨.ag (told (mBin (opAt L s1 4) (Expr.mk k1 p1 n1 v1 q1 m1 ks1 ss1) (Expr.mk k2 p2 n2 v2 q2 m2 ks2 ss2)).row [Hk, Hs]), [PB L (u)], ⟨⟨Hk, Hs, by first | rfl | simp only [bae, PB, mLit, mCol, mKids, mUn, mBin, zExpr, zVal, z0, Expr.row_mk, Query.row_mk, List.flatMap_nil, List.flatMap_cons, List.append_nil, List.length_nil, List.length_cons, told, Val.row, List.cons_append, List.nil_append]⟩, rfl⟩, endOk ?_⟩
   simp only [tt, seval, bae, PB, mLit, mCol, mKids, mUn, mBin, zExpr, zVal, z0, Expr.row_mk, Query.row_mk, List.flatMap_nil, List.flatMap_cons, List.append_nil, List.length_nil, List.length_cons, told, Val.row, List.cons_append, List.nil_append]
   first | done | exact pool_ok fun x => by simp only [List.flatten_append, List.flatten_cons, List.flatten_nil, List.count_append, List.append_nil, List.nil_append, List.count_nil]; omega | exact ⟨by omega, Sb.refl _⟩ | exact ⟨by omega, pool_ok fun x => by simp only [List.flatten_append, List.flatten_cons, List.flatten_nil, List.count_append, List.append_nil, List.nil_append, List.count_nil]; omega⟩
def TpI (L : List Tok) (m : PM Item) : Prop := ∀ s e s', m s = some (e, s') → s.a ≤ L.length → Cl Tryz.prog 103 [.c (.p 9000 0)] [PB L s] fun r os => (∃ F0 F1, r = .ag (told (e).row [F0, F1])) ∧ os = [PB L s']
def TpK (L : List Tok) (m : PM SortKey) : Prop := ∀ s e s', m s = some (e, s') → s.a ≤ L.length → Cl Tryz.prog 107 [.c (.p 9000 0)] [PB L s] fun r os => (∃ F0 F1, r = .ag (told (e).row [F0, F1])) ∧ os = [PB L s']
set_option maxHeartbeats 4000000 in
theorem pitem_step (L : List Tok) (hL : L.length ≤ 1048576) (hT : ∀ t ∈ L, t.text.size ≤ 1048576) {f : Nat → PM Expr} (ok : ∀ lv, OkM (L := L) (f lv)) (hf1 : TpE L 42 (f 1)) : TpI L (itemM L f) := by
 intro s x s' h ha
 unfold itemM at h
 refine cl_of_d follows_mixed true Tryz.func103 rfl (by kernel_rfl) ?_
 simp only [Tryz.f103, tt, seval]
 refine CallQ.intro (ptakeSign_d L hL hT s 42 ha) ?_ ?_ ?_
 ·decide
 ·simp only [tt, seval, PB]
 rintro r os ⟨rfl, rfl⟩ hos
 simp only [tt, seval, PB]
 cases c42 : isSg L s 42 with
 | true =>
  rw [if_pos c42] at h
  injection h with h; injection h with h1 h2; subst h1 h2
  simp only [tt, seval, tkT, tkF, muT, muF]
  refine ⟨.ag (told (Item.mk true z0 zExpr z0).row [[], []]), [PB L (adv s)], ⟨⟨[], [], by first | rfl | simp only [Item.row_mk, Source.row_mk, SortKey.row_mk, bae, PB, mLit, mCol, mKids, mUn, mBin, zExpr, zVal, z0, Expr.row_mk, Query.row_mk, List.flatMap_nil, List.flatMap_cons, List.append_nil, List.length_nil, List.length_cons, told, Val.row, List.cons_append, List.nil_append]⟩, rfl⟩, endOk ?_⟩
  simp only [tt, seval, Item.row_mk, Source.row_mk, SortKey.row_mk, bae, PB, mLit, mCol, mKids, mUn, mBin, zExpr, zVal, z0, Expr.row_mk, Query.row_mk, List.flatMap_nil, List.flatMap_cons, List.append_nil, List.length_nil, List.length_cons, told, Val.row, List.cons_append, List.nil_append]
  first | done | exact pool_ok fun x => by simp only [List.flatten_append, List.flatten_cons, List.flatten_nil, List.count_append, List.append_nil, List.nil_append, List.count_nil]; omega | exact ⟨by omega, Sb.refl _⟩ | exact ⟨by omega, pool_ok fun x => by simp only [List.flatten_append, List.flatten_cons, List.flatten_nil, List.count_append, List.append_nil, List.nil_append, List.count_nil]; omega⟩
 | false =>
 rw [if_neg (by rw [c42]; simp)] at h
 simp only [tt, seval, tkT, tkF, muT, muF, Bool.false_eq_true]
 refine CallQ.intro (pisKind_d L hL hT s 2 ha) ?_ ?_ ?_
 ·decide
 ·simp only [tt, seval, PB]
 rintro r os ⟨rfl, rfl⟩ hos
 simp only [tt, seval, PB]
 cases hK : isK L s 2 with
 | false =>
  simp only [tt, seval, Bool.false_eq_true]
  have hsf : starN L s = false := by unfold starN; rw [hK]; rfl
  rw [if_neg (by rw [hsf]; simp)] at h
  split at h
  ·cases h
  rename_i e s1 he
  injection h with h; injection h with h1 h2; subst h1 h2
  have ha1 := (ok 1 _ _ _ he).2.1 ha
  obtain ⟨k1, p1, n1, v1, q1, m1, ks1, ss1⟩ := e
  have c1 := hf1 _ _ _ he ha
  rw [Expr.row_mk] at c1
  try simp only [tt, seval, Bool.false_eq_true]
  refine CallQ.intro (c1) ?_ ?_ ?_
  ·decide
  ·simp only [tt, seval, PB, told, Val.row, List.cons_append, List.nil_append]
  rintro r os ⟨⟨Fk, Fs, rfl⟩, rfl⟩ hos
  simp only [tt, seval, PB, told, Val.row, List.cons_append, List.nil_append]
  refine dDrawn.intro [35] (.take 1 (.br 0 (.br 2 (.take 3 (.br 4 .done .nobr)) .nobr) (.br 2 (.take 0 (.take 3 (.br 4 .done .nobr))) .nobr))) (by kernel_rfl) ?_
  simp only [tt, seval]
  all_goals repeat' first | refine brC ?_ ?_ | refine brC2 ?_ ?_
  all_goals
   refine CallQ.intro (pas_d L hL hT s1 ha1) ?_ ?_ ?_
   ·decide
   ·simp only [tt, seval, PB, told, Val.row, List.cons_append, List.nil_append]
    try decide
   rintro r os ⟨rfl, rfl⟩ hos
   simp only [tt, seval, PB, told, Val.row, List.cons_append, List.nil_append]
  all_goals
   refine ⟨.ag (told (Item.mk false z0 (Expr.mk k1 p1 n1 v1 q1 m1 ks1 ss1) (asM L s1).1).row [Fk, Fs]), [PB L ((asM L s1).2)], ⟨⟨Fk, Fs, by first | rfl | simp only [Item.row_mk, Source.row_mk, SortKey.row_mk, bae, PB, mLit, mCol, mKids, mUn, mBin, zExpr, zVal, z0, Expr.row_mk, Query.row_mk, List.flatMap_nil, List.flatMap_cons, List.append_nil, List.length_nil, List.length_cons, told, Val.row, List.cons_append, List.nil_append]⟩, rfl⟩, endOk ?_⟩
   simp only [tt, seval, Item.row_mk, Source.row_mk, SortKey.row_mk, bae, PB, mLit, mCol, mKids, mUn, mBin, zExpr, zVal, z0, Expr.row_mk, Query.row_mk, List.flatMap_nil, List.flatMap_cons, List.append_nil, List.length_nil, List.length_cons, told, Val.row, List.cons_append, List.nil_append]
   first | done | exact pool_ok fun x => by simp only [List.flatten_append, List.flatten_cons, List.flatten_nil, List.count_append, List.append_nil, List.nil_append, List.count_nil]; omega | exact ⟨by omega, Sb.refl _⟩ | exact ⟨by omega, pool_ok fun x => by simp only [List.flatten_append, List.flatten_cons, List.flatten_nil, List.count_append, List.append_nil, List.nil_append, List.count_nil]; omega⟩
 | true =>
  simp only [tt, seval]
  refine CallQ.intro (pis_d L hL hT s 1 5 ⟨#[46]⟩ (by omega) ha) ?_ ?_ ?_
  ·decide
  ·simp only [tt, seval, PB]
  rintro r os ⟨rfl, rfl⟩ hos
  simp only [tt, seval, PB]
  cases h1 : isT L s 1 5 ⟨#[46]⟩ with
  | false =>
   have h1' : isT L s 1 (5 : Nat) ⟨#[46]⟩ = false := h1
   simp only [tt, seval, h1', Bool.false_eq_true]
   have hsf : starN L s = false := by unfold starN; rw [hK, h1]; rfl
   rw [if_neg (by rw [hsf]; simp)] at h
   split at h
   ·cases h
   rename_i e s1 he
   injection h with h; injection h with h1 h2; subst h1 h2
   have ha1 := (ok 1 _ _ _ he).2.1 ha
   obtain ⟨k1, p1, n1, v1, q1, m1, ks1, ss1⟩ := e
   have c1 := hf1 _ _ _ he ha
   rw [Expr.row_mk] at c1
   try simp only [tt, seval, Bool.false_eq_true]
   refine CallQ.intro (c1) ?_ ?_ ?_
   ·decide
   ·simp only [tt, seval, PB, told, Val.row, List.cons_append, List.nil_append]
   rintro r os ⟨⟨Fk, Fs, rfl⟩, rfl⟩ hos
   simp only [tt, seval, PB, told, Val.row, List.cons_append, List.nil_append]
   refine dDrawn.intro [35] (.take 1 (.br 0 (.br 2 (.take 3 (.br 4 .done .nobr)) .nobr) (.br 2 (.take 0 (.take 3 (.br 4 .done .nobr))) .nobr))) (by kernel_rfl) ?_
   simp only [tt, seval]
   all_goals repeat' first | refine brC ?_ ?_ | refine brC2 ?_ ?_
   all_goals
    refine CallQ.intro (pas_d L hL hT s1 ha1) ?_ ?_ ?_
    ·decide
    ·simp only [tt, seval, PB, told, Val.row, List.cons_append, List.nil_append]
     try decide
    rintro r os ⟨rfl, rfl⟩ hos
    simp only [tt, seval, PB, told, Val.row, List.cons_append, List.nil_append]
   all_goals
    refine ⟨.ag (told (Item.mk false z0 (Expr.mk k1 p1 n1 v1 q1 m1 ks1 ss1) (asM L s1).1).row [Fk, Fs]), [PB L ((asM L s1).2)], ⟨⟨Fk, Fs, by first | rfl | simp only [Item.row_mk, Source.row_mk, SortKey.row_mk, bae, PB, mLit, mCol, mKids, mUn, mBin, zExpr, zVal, z0, Expr.row_mk, Query.row_mk, List.flatMap_nil, List.flatMap_cons, List.append_nil, List.length_nil, List.length_cons, told, Val.row, List.cons_append, List.nil_append]⟩, rfl⟩, endOk ?_⟩
    simp only [tt, seval, Item.row_mk, Source.row_mk, SortKey.row_mk, bae, PB, mLit, mCol, mKids, mUn, mBin, zExpr, zVal, z0, Expr.row_mk, Query.row_mk, List.flatMap_nil, List.flatMap_cons, List.append_nil, List.length_nil, List.length_cons, told, Val.row, List.cons_append, List.nil_append]
    first | done | exact pool_ok fun x => by simp only [List.flatten_append, List.flatten_cons, List.flatten_nil, List.count_append, List.append_nil, List.nil_append, List.count_nil]; omega | exact ⟨by omega, Sb.refl _⟩ | exact ⟨by omega, pool_ok fun x => by simp only [List.flatten_append, List.flatten_cons, List.flatten_nil, List.count_append, List.append_nil, List.nil_append, List.count_nil]; omega⟩
  | true =>
   have h1' : isT L s 1 (5 : Nat) ⟨#[46]⟩ = true := h1
   simp only [tt, seval, h1']
   refine CallQ.intro (pis_d L hL hT s 2 5 ⟨#[42]⟩ (by omega) ha) ?_ ?_ ?_
   ·decide
   ·simp only [tt, seval, PB]
   rintro r os ⟨rfl, rfl⟩ hos
   simp only [tt, seval, PB]
   cases h2 : isT L s 2 5 ⟨#[42]⟩ with
   | false =>
    have h2' : isT L s 2 (5 : Nat) ⟨#[42]⟩ = false := h2
    simp only [tt, seval, h2', Bool.false_eq_true]
    have hsf : starN L s = false := by unfold starN; rw [hK, h1, h2]; rfl
    rw [if_neg (by rw [hsf]; simp)] at h
    split at h
    ·cases h
    rename_i e s1 he
    injection h with h; injection h with h1 h2; subst h1 h2
    have ha1 := (ok 1 _ _ _ he).2.1 ha
    obtain ⟨k1, p1, n1, v1, q1, m1, ks1, ss1⟩ := e
    have c1 := hf1 _ _ _ he ha
    rw [Expr.row_mk] at c1
    try simp only [tt, seval, Bool.false_eq_true]
    refine CallQ.intro (c1) ?_ ?_ ?_
    ·decide
    ·simp only [tt, seval, PB, told, Val.row, List.cons_append, List.nil_append]
    rintro r os ⟨⟨Fk, Fs, rfl⟩, rfl⟩ hos
    simp only [tt, seval, PB, told, Val.row, List.cons_append, List.nil_append]
    refine dDrawn.intro [35] (.take 1 (.br 0 (.br 2 (.take 3 (.br 4 .done .nobr)) .nobr) (.br 2 (.take 0 (.take 3 (.br 4 .done .nobr))) .nobr))) (by kernel_rfl) ?_
    simp only [tt, seval]
    all_goals repeat' first | refine brC ?_ ?_ | refine brC2 ?_ ?_
    all_goals
     refine CallQ.intro (pas_d L hL hT s1 ha1) ?_ ?_ ?_
     ·decide
     ·simp only [tt, seval, PB, told, Val.row, List.cons_append, List.nil_append]
      try decide
     rintro r os ⟨rfl, rfl⟩ hos
     simp only [tt, seval, PB, told, Val.row, List.cons_append, List.nil_append]
    all_goals
     refine ⟨.ag (told (Item.mk false z0 (Expr.mk k1 p1 n1 v1 q1 m1 ks1 ss1) (asM L s1).1).row [Fk, Fs]), [PB L ((asM L s1).2)], ⟨⟨Fk, Fs, by first | rfl | simp only [Item.row_mk, Source.row_mk, SortKey.row_mk, bae, PB, mLit, mCol, mKids, mUn, mBin, zExpr, zVal, z0, Expr.row_mk, Query.row_mk, List.flatMap_nil, List.flatMap_cons, List.append_nil, List.length_nil, List.length_cons, told, Val.row, List.cons_append, List.nil_append]⟩, rfl⟩, endOk ?_⟩
     simp only [tt, seval, Item.row_mk, Source.row_mk, SortKey.row_mk, bae, PB, mLit, mCol, mKids, mUn, mBin, zExpr, zVal, z0, Expr.row_mk, Query.row_mk, List.flatMap_nil, List.flatMap_cons, List.append_nil, List.length_nil, List.length_cons, told, Val.row, List.cons_append, List.nil_append]
     first | done | exact pool_ok fun x => by simp only [List.flatten_append, List.flatten_cons, List.flatten_nil, List.count_append, List.append_nil, List.nil_append, List.count_nil]; omega | exact ⟨by omega, Sb.refl _⟩ | exact ⟨by omega, pool_ok fun x => by simp only [List.flatten_append, List.flatten_cons, List.flatten_nil, List.count_append, List.append_nil, List.nil_append, List.count_nil]; omega⟩
   | true =>
    have h2' : isT L s 2 (5 : Nat) ⟨#[42]⟩ = true := h2
    simp only [tt, seval, h2']
    have hst : starN L s = true := by unfold starN; rw [hK, h1, h2]; rfl
    rw [if_pos hst] at h
    injection h with h; injection h with h1 h2; subst h1 h2
    have l3 := (starN_lt hst).2
    have l1 := isK_lt hK
    try simp only [tt, seval]
    refine CallQ.intro (pmustKind_d L hL hT s 2 ha) ?_ ?_ ?_
    ·decide
    ·simp only [tt, seval, PB]
    rintro r os ⟨rfl, rfl⟩ hos
    simp only [tt, seval, PB]
    rw [mt_yes hK]
    have e3 : IntKind.i64.wrap (((adv s).a : Int) + 2) = ((adv (adv (adv s))).a : Int) := by
     show IntKind.i64.wrap (((s.a + 1 : Nat) : Int) + 2) = ((s.a + 1 + 1 + 1 : Nat) : Int)
     rw [wrap_id (n := ((s.a + 1 : Nat) : Int) + 2) (by omega) (by omega)]; omega
    have e4 : (adv s).b = (adv (adv (adv s))).b := rfl
    simp only [tt, seval, e3, e4]
    refine ⟨.ag (told (Item.mk true (textAt L s) zExpr z0).row [[], []]), [PB L (adv (adv (adv s)))], ⟨⟨[], [], by first | rfl | simp only [Item.row_mk, Source.row_mk, SortKey.row_mk, bae, PB, mLit, mCol, mKids, mUn, mBin, zExpr, zVal, z0, Expr.row_mk, Query.row_mk, List.flatMap_nil, List.flatMap_cons, List.append_nil, List.length_nil, List.length_cons, told, Val.row, List.cons_append, List.nil_append]⟩, rfl⟩, endOk ?_⟩
    simp only [tt, seval, Item.row_mk, Source.row_mk, SortKey.row_mk, bae, PB, mLit, mCol, mKids, mUn, mBin, zExpr, zVal, z0, Expr.row_mk, Query.row_mk, List.flatMap_nil, List.flatMap_cons, List.append_nil, List.length_nil, List.length_cons, told, Val.row, List.cons_append, List.nil_append]
    first | done | exact pool_ok fun x => by simp only [List.flatten_append, List.flatten_cons, List.flatten_nil, List.count_append, List.append_nil, List.nil_append, List.count_nil]; omega | exact ⟨by omega, Sb.refl _⟩ | exact ⟨by omega, pool_ok fun x => by simp only [List.flatten_append, List.flatten_cons, List.flatten_nil, List.count_append, List.append_nil, List.nil_append, List.count_nil]; omega⟩
theorem psource_d (L : List Tok) (hL : L.length ≤ 1048576) (hT : ∀ t ∈ L, t.text.size ≤ 1048576) (s : PS) (ha : s.a ≤ L.length) : Cl Tryz.prog 168 [.c (.p 9000 0)] [PB L s] fun r os => r = .ag (told (sourceM L s).1.row [[]]) ∧ os = [PB L (sourceM L s).2] := by
 refine cl_of_d follows_mixed true Tryz.func168 rfl (by kernel_rfl) ?_
 simp only [Tryz.f168, tt, seval]
 refine CallQ.intro (pmustKind_d L hL hT s 2 ha) ?_ ?_ ?_
 ·decide
 ·simp only [tt, seval, PB]
 rintro r os ⟨rfl, rfl⟩ hos
 simp only [tt, seval, PB]
 have ha1 := (Ok.mText (L := L) 2 s).2.1 ha
 have he : sourceM L s = (.mk (mText L 2 s).1 (asM L (mText L 2 s).2).1 [], (asM L (mText L 2 s).2).2) := rfl
 rw [he]
 generalize (mText L 2 s).1 = x at *
 generalize (mText L 2 s).2 = u at *
 refine CallQ.intro (pas_d L hL hT u ha1) ?_ ?_ ?_
 ·decide
 ·simp only [tt, seval, PB]
 rintro r os ⟨rfl, rfl⟩ hos
 simp only [tt, seval, PB]
 refine ⟨.ag (told (Source.mk x (asM L u).1 []).row [[]]), [PB L (asM L u).2], ⟨rfl, rfl⟩, endOk ?_⟩
 simp only [tt, seval, PB, Source.row_mk, List.flatMap_nil, List.length_nil, told]
 first | done | exact pool_ok fun x => by simp only [List.flatten_append, List.flatten_cons, List.flatten_nil, List.count_append, List.append_nil, List.nil_append, List.count_nil]; omega | exact ⟨by omega, Sb.refl _⟩ | exact ⟨by omega, pool_ok fun x => by simp only [List.flatten_append, List.flatten_cons, List.flatten_nil, List.count_append, List.append_nil, List.nil_append, List.count_nil]; omega⟩
def TpL (L : List Tok) (fn : FuncId) (m : PM (List Expr)) : Prop := ∀ s x s', m s = some (x, s') → s.a ≤ L.length → Cl Tryz.prog fn [.c (.p 9000 0)] [PB L s] fun r os => (∃ F, r = .c (.ow 29 x.length (x.flatMap Expr.row) (some F))) ∧ os = [PB L s']
theorem pwhere_step (L : List Tok) (hL : L.length ≤ 1048576) (hT : ∀ t ∈ L, t.text.size ≤ 1048576) {f : Nat → PM Expr} (hf1 : TpE L 42 (f 1)) : TpL L 106 (whereM L f) := by
 intro s x s' h ha
 unfold whereM at h
 refine cl_of_d follows_mixed true Tryz.func106 rfl (by kernel_rfl) ?_
 simp only [Tryz.f106, tt, seval]
 refine CallQ.intro (ptakeKey_d L hL hT s 6 ⟨#[87, 72, 69, 82, 69]⟩ (by kernel_rfl) ha) ?_ ?_ ?_
 ·decide
 ·simp only [tt, seval, PB]
 rintro r os ⟨rfl, rfl⟩ hos
 simp only [tt, seval, PB]
 cases c6 : isKey L s 6 with
 | true =>
  rw [if_pos c6] at h
  split at h
  ·cases h
  rename_i e s1 he
  injection h with h; injection h with h1 h2; subst h1 h2
  simp only [tt, seval, tkT, tkF, muT, muF]
  obtain ⟨k1, p1, n1, v1, q1, m1, ks1, ss1⟩ := e
  have c1 := hf1 _ _ _ he (adv_le (isKey_lt c6))
  rw [Expr.row_mk] at c1
  refine CallQ.intro (c1) ?_ ?_ ?_
  ·decide
  ·simp only [tt, seval, PB, told, Val.row, List.cons_append, List.nil_append]
  rintro r os ⟨⟨Fk, Fs, rfl⟩, rfl⟩ hos
  simp only [tt, seval, PB, told, Val.row, List.cons_append, List.nil_append]
  refine ⟨.c (.ow 29 [(Expr.mk k1 p1 n1 v1 q1 m1 ks1 ss1)].length ([(Expr.mk k1 p1 n1 v1 q1 m1 ks1 ss1)].flatMap Expr.row) (some (Fk ++ Fs))), [PB L s1], ⟨⟨_, rfl⟩, rfl⟩, endOk ?_⟩
  simp only [tt, seval, bae, PB, mLit, mCol, mKids, mUn, mBin, zExpr, zVal, z0, Expr.row_mk, Query.row_mk, List.flatMap_nil, List.flatMap_cons, List.append_nil, List.length_nil, List.length_cons, Val.row]
  first | done | exact Sb.refl _ | exact pool_ok fun x => by simp only [List.flatten_append, List.flatten_cons, List.flatten_nil, List.count_append, List.append_nil, List.nil_append, List.count_nil]; omega | exact ⟨by omega, Sb.refl _⟩ | exact ⟨by omega, pool_ok fun x => by simp only [List.flatten_append, List.flatten_cons, List.flatten_nil, List.count_append, List.append_nil, List.nil_append, List.count_nil]; omega⟩
 | false =>
  rw [if_neg (by rw [c6]; simp)] at h
  injection h with h; injection h with h1 h2; subst h1 h2
  simp only [tt, seval, tkT, tkF, muT, muF, Bool.false_eq_true]
  refine ⟨.c (.ow 29 ([] : List Expr).length (([] : List Expr).flatMap Expr.row) (some [])), [PB L s], ⟨⟨_, rfl⟩, rfl⟩, endOk ?_⟩
  simp only [tt, seval, PB, List.flatMap_nil, List.length_nil]
  first | done | exact Sb.refl _ | exact pool_ok fun x => by simp only [List.flatten_append, List.flatten_cons, List.flatten_nil, List.count_append, List.append_nil, List.nil_append, List.count_nil]; omega | exact ⟨by omega, Sb.refl _⟩ | exact ⟨by omega, pool_ok fun x => by simp only [List.flatten_append, List.flatten_cons, List.flatten_nil, List.count_append, List.append_nil, List.nil_append, List.count_nil]; omega⟩
set_option maxHeartbeats 2000000 in
theorem pkey_step (L : List Tok) (hL : L.length ≤ 1048576) (hT : ∀ t ∈ L, t.text.size ≤ 1048576) {f : Nat → PM Expr} (ok : ∀ lv, OkM (L := L) (f lv)) (hf1 : TpE L 42 (f 1)) : TpK L (sortM L f) := by
 intro s x s' h ha
 unfold sortM at h
 split at h
 ·cases h
 rename_i e s1 he
 have ha1 := (ok 1 _ _ _ he).2.1 ha
 obtain ⟨k1, p1, n1, v1, q1, m1, ks1, ss1⟩ := e
 have c1 := hf1 _ _ _ he ha
 rw [Expr.row_mk] at c1
 refine cl_of_d follows_mixed true Tryz.func107 rfl (by kernel_rfl) ?_
 simp only [Tryz.f107, tt, seval]
 refine CallQ.intro (c1) ?_ ?_ ?_
 ·decide
 ·simp only [tt, seval, PB, told, Val.row, List.cons_append, List.nil_append]
 rintro r os ⟨⟨Fk, Fs, rfl⟩, rfl⟩ hos
 simp only [tt, seval, PB, told, Val.row, List.cons_append, List.nil_append]
 refine CallQ.intro (ptakeKey_d L hL hT s1 9 ⟨#[65, 83, 67]⟩ (by kernel_rfl) ha1) ?_ ?_ ?_
 ·decide
 ·simp only [tt, seval, PB]
 rintro r os ⟨rfl, rfl⟩ hos
 simp only [tt, seval, PB]
 cases c9 : isKey L s1 9 with
 | true =>
  rw [if_pos c9] at h
  injection h with h; injection h with h1 h2; subst h1 h2
  simp only [tt, seval, tkT, tkF, muT, muF, Bool.not_true, Bool.false_eq_true]
  refine ⟨.ag (told (SortKey.mk (Expr.mk k1 p1 n1 v1 q1 m1 ks1 ss1) false).row [Fk, Fs]), [PB L (adv s1)], ⟨⟨Fk, Fs, by first | rfl | simp only [Item.row_mk, Source.row_mk, SortKey.row_mk, bae, PB, mLit, mCol, mKids, mUn, mBin, zExpr, zVal, z0, Expr.row_mk, Query.row_mk, List.flatMap_nil, List.flatMap_cons, List.append_nil, List.length_nil, List.length_cons, told, Val.row, List.cons_append, List.nil_append]⟩, rfl⟩, endOk ?_⟩
  simp only [tt, seval, Item.row_mk, Source.row_mk, SortKey.row_mk, bae, PB, mLit, mCol, mKids, mUn, mBin, zExpr, zVal, z0, Expr.row_mk, Query.row_mk, List.flatMap_nil, List.flatMap_cons, List.append_nil, List.length_nil, List.length_cons, told, Val.row, List.cons_append, List.nil_append]
  first | done | exact pool_ok fun x => by simp only [List.flatten_append, List.flatten_cons, List.flatten_nil, List.count_append, List.append_nil, List.nil_append, List.count_nil]; omega | exact ⟨by omega, Sb.refl _⟩ | exact ⟨by omega, pool_ok fun x => by simp only [List.flatten_append, List.flatten_cons, List.flatten_nil, List.count_append, List.append_nil, List.nil_append, List.count_nil]; omega⟩
 | false =>
  rw [if_neg (by rw [c9]; simp)] at h
  injection h with h; injection h with h1 h2; subst h1 h2
  simp only [tt, seval, tkT, tkF, muT, muF, Bool.not_false]
  refine CallQ.intro (ptakeKey_d L hL hT s1 10 ⟨#[68, 69, 83, 67]⟩ (by kernel_rfl) ha1) ?_ ?_ ?_
  ·decide
  ·simp only [tt, seval, PB]
  rintro r os ⟨rfl, rfl⟩ hos
  simp only [tt, seval, PB]
  refine ⟨.ag (told (SortKey.mk (Expr.mk k1 p1 n1 v1 q1 m1 ks1 ss1) (isKey L s1 10)).row [Fk, Fs]), [PB L (tkIf (isKey L s1 10) s1)], ⟨⟨Fk, Fs, by first | rfl | simp only [Item.row_mk, Source.row_mk, SortKey.row_mk, bae, PB, mLit, mCol, mKids, mUn, mBin, zExpr, zVal, z0, Expr.row_mk, Query.row_mk, List.flatMap_nil, List.flatMap_cons, List.append_nil, List.length_nil, List.length_cons, told, Val.row, List.cons_append, List.nil_append]⟩, rfl⟩, endOk ?_⟩
  simp only [tt, seval, Item.row_mk, Source.row_mk, SortKey.row_mk, bae, PB, mLit, mCol, mKids, mUn, mBin, zExpr, zVal, z0, Expr.row_mk, Query.row_mk, List.flatMap_nil, List.flatMap_cons, List.append_nil, List.length_nil, List.length_cons, told, Val.row, List.cons_append, List.nil_append]
  first | done | exact pool_ok fun x => by simp only [List.flatten_append, List.flatten_cons, List.flatten_nil, List.count_append, List.append_nil, List.nil_append, List.count_nil]; omega | exact ⟨by omega, Sb.refl _⟩ | exact ⟨by omega, pool_ok fun x => by simp only [List.flatten_append, List.flatten_cons, List.flatten_nil, List.count_append, List.append_nil, List.nil_append, List.count_nil]; omega⟩
end Go.Proofs.YteffjmaadkkmeaaGreatDoor
