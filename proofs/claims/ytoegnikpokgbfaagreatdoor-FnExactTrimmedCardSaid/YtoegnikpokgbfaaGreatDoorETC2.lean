/-
  The reference's parser, second half.
  Conditions: none.
-/
import Derived.Test.YtoegnikpokgbfaaGreatDoorETC1
set_option linter.unusedVariables false
set_option linter.unusedSimpArgs false
set_option linter.unusedSectionVars false
set_option maxRecDepth 8000
namespace Go.Proofs.YtoegnikpokgbfaaGreatDoor
open Go Go.Dv
open Go.Vc (D shrI xorI andI)
set_option maxHeartbeats 2000000 in
theorem l12Expr3 (L : List Tok) (hL : L.length ≤ 1048576) (hT : ∀ t ∈ L, t.text.size ≤ 1048576) {f : Nat → PM Expr} {q : PM Query} (ok : ∀ lv, OkM (L := L) (f lv)) (okq : OkM (L := L) q) (hf : ∀ lv : Nat, 1 ≤ lv → lv ≤ 8 → SpE L 129 [vi lv] (f lv)) (hp : SpE L 195 [] (f 9)) (hq : SpQ L 231 q) : SpE L 129 [vi (3 : Nat)] (stepE L f q 3) := by
 intro s x s' h ha
 unfold stepE at h
 simp only [if_true] at h
 refine cl_of_d follows_mixed false Tryz.func129 rfl (by kernel_rfl) ?_
 simp only [Tryz.f129, tt, seval]
 refine cS (l12Maybe_d L hL hT s 15 (by omega) (by omega) ha) (by decide) ?_ ?_ <;> simp only [tt, seval, PB]
 cases c15 : isKey L s 15 with
 | true =>
  rw [if_pos c15] at h
  split at h
  ·cases h
  rename_i e s1 he
  injection h with h; injection h with h1 h2; subst h1 h2
  simp only [tt, seval, tkT]
  obtain ⟨k1, p1, n1, v1, q1, m1, ks1, ss1⟩ := e
  have c1 := hf 3 (by omega) (by omega) _ _ _ he (adv_le (isKey_lt c15))
  rw [Expr.row_mk] at c1
  refine cS (c1) (by decide) ?_ ?_ <;> simp only [tt, seval, PB]
  refine ⟨.ag (csOf (mUn 15 (Expr.mk k1 p1 n1 v1 q1 m1 ks1 ss1)).row), [PB L (s1)], ⟨rfl, rfl⟩, endOk ?_⟩
  simp only [tt, seval, bae, PB, mUn, zVal, z0, Expr.row_mk]
 | false =>
  rw [if_neg (by rw [c15]; simp)] at h
  simp only [tt, seval, tkF]
  obtain ⟨k1, p1, n1, v1, q1, m1, ks1, ss1⟩ := x
  have c1 := hf 4 (by omega) (by omega) _ _ _ h ha
  rw [Expr.row_mk] at c1
  refine cS (c1) (by decide) ?_ ?_ <;> simp only [tt, seval, PB]
  refine ⟨.ag (csOf ((Expr.mk k1 p1 n1 v1 q1 m1 ks1 ss1)).row), [PB L (s')], ⟨rfl, rfl⟩, endOk ?_⟩
  simp only [tt, seval, PB, Expr.row_mk]
theorem l12Expr4 (L : List Tok) (hL : L.length ≤ 1048576) (hT : ∀ t ∈ L, t.text.size ≤ 1048576) {f : Nat → PM Expr} {q : PM Query} (ok : ∀ lv, OkM (L := L) (f lv)) (okq : OkM (L := L) q) (hf : ∀ lv : Nat, 1 ≤ lv → lv ≤ 8 → SpE L 129 [vi lv] (f lv)) (hp : SpE L 195 [] (f 9)) (hq : SpQ L 231 q) : SpE L 129 [vi (4 : Nat)] (stepE L f q 4) := by
 intro s x s' h ha
 have h : cmpM L f q s = some (x, s') := h
 refine cl_of_d follows_mixed false Tryz.func129 rfl (by kernel_rfl) ?_
 simp only [Tryz.f129, tt, seval]
 obtain ⟨k1, p1, n1, v1, q1, m1, ks1, ss1⟩ := x
 have c1 := l12Cmp_step L hL hT ok okq (hf 1 (by omega) (by omega)) (hf 5 (by omega) (by omega)) hq _ _ _ h ha
 rw [Expr.row_mk] at c1
 refine cS (c1) (by decide) ?_ ?_ <;> simp only [tt, seval, PB]
 refine ⟨.ag (csOf ((Expr.mk k1 p1 n1 v1 q1 m1 ks1 ss1)).row), [PB L (s')], ⟨rfl, rfl⟩, endOk ?_⟩
 simp only [tt, seval, PB, Expr.row_mk]
set_option maxHeartbeats 2000000 in
theorem l12Expr8 (L : List Tok) (hL : L.length ≤ 1048576) (hT : ∀ t ∈ L, t.text.size ≤ 1048576) {f : Nat → PM Expr} {q : PM Query} (ok : ∀ lv, OkM (L := L) (f lv)) (okq : OkM (L := L) q) (hf : ∀ lv : Nat, 1 ≤ lv → lv ≤ 8 → SpE L 129 [vi lv] (f lv)) (hp : SpE L 195 [] (f 9)) (hq : SpQ L 231 q) : SpE L 129 [vi (8 : Nat)] (stepE L f q 8) := by
 intro s x s' h ha
 unfold stepE at h
 simp only [Nat.reduceEqDiff, if_false, if_true] at h
 refine cl_of_d follows_mixed false Tryz.func129 rfl (by kernel_rfl) ?_
 simp only [Tryz.f129, tt, seval]
 refine cS (l12SignC_d L hL hT s 45 ha) (by decide) ?_ ?_ <;> simp only [tt, seval, PB]
 cases c45 : isSg L s 45 with
 | true =>
  rw [if_pos c45] at h
  split at h
  ·cases h
  rename_i e s1 he
  injection h with h; injection h with h1 h2; subst h1 h2
  simp only [tt, seval]
  refine cS (l12Step_d L hL hT s true (fun _ => isSg_lt c45)) (by decide) ?_ ?_ <;> simp only [tt, seval, PB, muT]
  obtain ⟨k1, p1, n1, v1, q1, m1, ks1, ss1⟩ := e
  have c1 := hf 8 (by omega) (by omega) _ _ _ he (adv_le (isSg_lt c45))
  rw [Expr.row_mk] at c1
  refine cS (c1) (by decide) ?_ ?_ <;> simp only [tt, seval, PB]
  refine ⟨.ag (csOf (mUn 16 (Expr.mk k1 p1 n1 v1 q1 m1 ks1 ss1)).row), [PB L (s1)], ⟨rfl, rfl⟩, endOk ?_⟩
  simp only [tt, seval, bae, PB, mUn, zVal, z0, Expr.row_mk]
 | false =>
  rw [if_neg (by rw [c45]; simp)] at h
  simp only [tt, seval]
  obtain ⟨k1, p1, n1, v1, q1, m1, ks1, ss1⟩ := x
  have c1 := hp _ _ _ h ha
  rw [Expr.row_mk] at c1
  refine cS (c1) (by decide) ?_ ?_ <;> simp only [tt, seval, PB]
  refine ⟨.ag (csOf ((Expr.mk k1 p1 n1 v1 q1 m1 ks1 ss1)).row), [PB L (s')], ⟨rfl, rfl⟩, endOk ?_⟩
  simp only [tt, seval, PB, Expr.row_mk]
theorem opAt_bad {L : List Tok} {s : PS} (w : Nat) (h : s.b = true) : opAt L s w = 0 := by
 cases Nat.eq_zero_or_pos (opAt L s w) with
 | inl e => exact e
 | inr e => have := (opAt_lt (L := L) (s := s) (lv := w) (by omega)).1; rw [h] at this; cases this
set_option maxHeartbeats 4000000 in
theorem l12ExprB (L : List Tok) (hL : L.length ≤ 1048576) (hT : ∀ t ∈ L, t.text.size ≤ 1048576) {f : Nat → PM Expr} {q : PM Query} (ok : ∀ lv, OkM (L := L) (f lv)) (okq : OkM (L := L) q) (hf : ∀ lv : Nat, 1 ≤ lv → lv ≤ 8 → SpE L 129 [vi lv] (f lv)) (hp : SpE L 195 [] (f 9)) (hq : SpQ L 231 q) (w : Nat) (hw : w ∈ [1, 2, 5, 6, 7]) : SpE L 129 [vi w] (stepE L f q w) := by
 intro s x s' h ha
 have hw2 : w ∈ [1, 2, 4, 5, 6, 7] := by simp only [List.mem_cons, List.not_mem_nil, or_false] at hw ⊢; omega
 have hw3 : ¬ w = 3 ∧ ¬ w = 4 ∧ ¬ w = 8 ∧ ¬ w = 9 ∧ 1 ≤ w ∧ w ≤ 7 := by simp only [List.mem_cons, List.not_mem_nil, or_false] at hw; omega
 obtain ⟨w3, w4, w8, w9, w1, w7⟩ := hw3
 have g3 : decide ((w : Int) = 3) = false := decide_eq_false (by omega)
 have g4 : decide ((w : Int) = 4) = false := decide_eq_false (by omega)
 have g8 : decide ((w : Int) = 8) = false := decide_eq_false (by omega)
 have p3 : ((w : Int) = 3) = False := eq_false (by omega)
 have p4 : ((w : Int) = 4) = False := eq_false (by omega)
 have p8 : ((w : Int) = 8) = False := eq_false (by omega)
 have ew : IntKind.i64.wrap ((w : Int) + 1) = ((w + 1 : Nat) : Int) := wrap_id (n := (w : Int) + 1) (by omega) (by omega)
 unfold stepE at h
 rw [if_neg w3, if_neg w4, if_neg w8, if_neg w9] at h
 split at h
 ·cases h
 rename_i e s1 he
 have o1 := ok (w + 1) _ _ _ he
 have ha1 := o1.2.1 ha
 obtain ⟨k1, p1, n1, v1, q1, m1, ks1, ss1⟩ := e
 have c1 := hf (w + 1) (by omega) (by omega) _ _ _ he ha
 rw [Expr.row_mk] at c1
 refine cl_of_d follows_mixed false Tryz.func129 rfl (by kernel_rfl) ?_
 simp only [Tryz.f129, tt, seval]
 simp only [tt, seval, p3, p4, p8, ew]
 refine cS (c1) (by decide) ?_ ?_ <;> simp (config := { maxSteps := 2000000 }) only [tt, seval, PB]
 refine dLoop.gh [] ?_
 refine dLoop0.introR (fun f' Lo p => ∃ (e : Expr) (v : PS) (n : Nat), chainM L (f (w + 1)) w n e v = some (x, s') ∧ v.a ≤ L.length ∧ (Lo = [(9000, .str (PB L v)), (5, .str (csOf (e).row)), (4, .str [.v (.int .i64 0), .v (.int .i64 0), .v (.bool false), .v (.int .i64 0), .v (.int .i64 0), .v (.string ByteArray.empty), .v (.string ByteArray.empty), .v (.string ByteArray.empty), .v (.slice none 0 0), .v (.slice none 0 0)])] ∨ (∃ (op : Nat) (a b : Expr), e = mBin op a b ∧ Lo = [(9000, .str (PB L v)), (5, .str [.v (.int .i64 4), .v (.int .i64 op), .v (.bool false), .v (.int .i64 0), .v (.int .i64 0), .v (.string ByteArray.empty), .v (.string ByteArray.empty), .v (.string ByteArray.empty), .s 10056 2, .v (.slice none 0 0)]), (10056, .arr 29 2 ([a, b].flatMap Expr.row) none), (4, .str [.v (.int .i64 0), .v (.int .i64 0), .v (.bool false), .v (.int .i64 0), .v (.int .i64 0), .v (.string ByteArray.empty), .v (.string ByteArray.empty), .v (.string ByteArray.empty), .v (.slice none 0 0), .v (.slice none 0 0)])])) ∧ p = none) (fun _ Lo _ => L.length - atS Lo) [(9000, .str (PB L s1)), (5, .str (csOf ((Expr.mk k1 p1 n1 v1 q1 m1 ks1 ss1)).row)), (4, .str [.v (.int .i64 0), .v (.int .i64 0), .v (.bool false), .v (.int .i64 0), .v (.int .i64 0), .v (.string ByteArray.empty), .v (.string ByteArray.empty), .v (.string ByteArray.empty), .v (.slice none 0 0), .v (.slice none 0 0)])] none ⟨by rw [Expr.row_mk]; exact SubO.cons rfl (SubO.cons rfl (SubO.cons rfl (SubO.nil _))), PoSub.none _, ?_⟩ ?_
 ·simp only [tt, seval]
  exact ⟨(Expr.mk k1 p1 n1 v1 q1 m1 ks1 ss1), s1, L.length + 1, h, ha1, .inl rfl⟩
 ·rintro g' Lo p ⟨e, v, n, hm, hv, rfl | ⟨op, a, b, rfl, rfl⟩, rfl⟩
  ·obtain ⟨k1, p1, n1, v1, q1, m1, ks1, ss1⟩ := e
   rw [Expr.row_mk]
   simp only [tt, seval]
   cases n with
   | zero => cases hm
   | succ n =>
   rw [chainM] at hm
   have fini : opAt L v w = 0 → ((Expr.mk k1 p1 n1 v1 q1 m1 ks1 ss1) = x ∧ v = s') := fun e0 => by
    rw [if_pos e0] at hm
    injection hm with hm; injection hm with e1 e2; exact ⟨e1, e2⟩
   cases hb : v.b with
   | true =>
    obtain ⟨e1, e2⟩ := fini (opAt_bad w hb)
    subst e1 e2
    simp only [tt, seval, PB, hb]
    refine ⟨.ag (csOf ((Expr.mk k1 p1 n1 v1 q1 m1 ks1 ss1)).row), [PB L v], ⟨rfl, by rw [PB, hb]⟩, endOk ?_⟩
    simp only [tt, seval, PB, Expr.row_mk, hb]
   | false =>
   have hpb : PB L v = [.sl L.length (L.flatMap Tok.row) none, .v (.int .i64 v.a), .v (.bool false)] := by rw [PB, hb]
   have cop := l12Op_d L hL hT v w hw2 hv
   rw [hpb] at cop
   simp only [tt, seval, PB, hb]
   refine cS (cop) (by decide) ?_ ?_ <;> simp only [tt, seval]
   by_cases hop : opAt L v w = 0
   ·obtain ⟨e1, e2⟩ := fini hop
    subst e1 e2
    have e0 : decide (((opAt L v w : Nat) : Int) = 0) = true := decide_eq_true (by omega)
    simp only [tt, seval, hop, hb]
    refine ⟨.ag (csOf ((Expr.mk k1 p1 n1 v1 q1 m1 ks1 ss1)).row), [PB L v], ⟨rfl, by rw [PB, hb]⟩, endOk ?_⟩
    simp only [tt, seval, PB, Expr.row_mk, hb]
   ·have e0 : decide (((opAt L v w : Nat) : Int) = 0) = false := decide_eq_false (by omega)
    have e1 : (((opAt L v w : Nat) : Int) = 0) = False := eq_false (by omega)
    rw [if_neg hop] at hm
    split at hm
    ·cases hm
    rename_i z u hz
    have hav := adv_le (L := L) (opAt_lt hop)
    have o3 := ok (w + 1) _ _ _ hz
    have o3a : v.a + 1 ≤ u.a := o3.1
    have hu := o3.2.1 hav
    have hlt := (opAt_lt hop).2
    obtain ⟨k2, p2, n2, v2, q2, m2, ks2, ss2⟩ := z
    have c2 := hf (w + 1) (by omega) (by omega) _ _ _ hz hav
    rw [Expr.row_mk] at c2
    have cst := l12Step_d L hL hT v true (fun _ => opAt_lt hop)
    rw [hpb] at cst
    simp only [tt, seval, e1]
    refine cS (cst) (by decide) ?_ ?_ <;> simp only [tt, seval, PB, muT]
    apply dDrawn_j1 5
    case h1 =>
     refine dDrawn.intro [55] (.take 0 (.take 2 (.take 3 (.take 4 (.br 1 (.br 5 (.br 6 (.take 7 (.br 8 .done .nobr)) .nobr) .nobr) (.br 5 (.take 1 (.br 6 (.take 7 (.br 8 .done .nobr)) .nobr)) .nobr)))))) (by kernel_rfl) ?_
     simp only [tt, seval]
     all_goals repeat' first | refine brC ?_ ?_ | refine brC2 ?_ ?_
     all_goals
      refine cS (c2) (by decide) ?_ ?_
      ·simp (config := { maxSteps := 2000000 }) only [tt, seval, PB, ew]
       decide
      simp (config := { maxSteps := 2000000 }) only [tt, seval, PB, ew]
     all_goals exact ⟨rfl, rfl, rfl⟩
    case h2 =>
     intro f' hj0
     refine ⟨[.ren 56 10056], by decide, by decide, ?_⟩
     simp only [tt, seval]
     refine ⟨[(9000, .str (PB L u)), (5, .str [.v (.int .i64 4), .v (.int .i64 (opAt L v w)), .v (.bool false), .v (.int .i64 0), .v (.int .i64 0), .v (.string ByteArray.empty), .v (.string ByteArray.empty), .v (.string ByteArray.empty), .s 10056 2, .v (.slice none 0 0)]), (10056, .arr 29 2 ([(Expr.mk k1 p1 n1 v1 q1 m1 ks1 ss1), (Expr.mk k2 p2 n2 v2 q2 m2 ks2 ss2)].flatMap Expr.row) none), (4, .str [.v (.int .i64 0), .v (.int .i64 0), .v (.bool false), .v (.int .i64 0), .v (.int .i64 0), .v (.string ByteArray.empty), .v (.string ByteArray.empty), .v (.string ByteArray.empty), .v (.slice none 0 0), .v (.slice none 0 0)])], none, by simp only [bae, PB, Expr.row_mk, List.flatMap_nil, List.flatMap_cons, List.append_nil]; exact SubO.cons rfl (SubO.cons rfl (SubO.cons rfl (SubO.cons rfl (SubO.nil _)))), PoSub.none _, ⟨mBin (opAt L v w) (Expr.mk k1 p1 n1 v1 q1 m1 ks1 ss1) (Expr.mk k2 p2 n2 v2 q2 m2 ks2 ss2), u, n, hm, hu, .inr ⟨_, (Expr.mk k1 p1 n1 v1 q1 m1 ks1 ss1), (Expr.mk k2 p2 n2 v2 q2 m2 ks2 ss2), rfl, rfl⟩, rfl⟩, ?_⟩
     show L.length - ((u.a : Int)).toNat < L.length - ((v.a : Int)).toNat
     omega
  ·skip
   simp only [tt, seval]
   cases n with
   | zero => cases hm
   | succ n =>
   rw [chainM] at hm
   have fini : opAt L v w = 0 → ((mBin op a b) = x ∧ v = s') := fun e0 => by
    rw [if_pos e0] at hm
    injection hm with hm; injection hm with e1 e2; exact ⟨e1, e2⟩
   cases hb : v.b with
   | true =>
    obtain ⟨e1, e2⟩ := fini (opAt_bad w hb)
    subst e1 e2
    simp only [tt, seval, PB, hb]
    refine ⟨.ag (csOf ((mBin op a b)).row), [PB L v], ⟨rfl, by rw [PB, hb]⟩, endOk ?_⟩
    simp only [tt, seval, bae, PB, mBin, zVal, z0, Expr.row_mk, hb]
   | false =>
   have hpb : PB L v = [.sl L.length (L.flatMap Tok.row) none, .v (.int .i64 v.a), .v (.bool false)] := by rw [PB, hb]
   have cop := l12Op_d L hL hT v w hw2 hv
   rw [hpb] at cop
   simp only [tt, seval, PB, hb]
   refine cS (cop) (by decide) ?_ ?_ <;> simp only [tt, seval]
   by_cases hop : opAt L v w = 0
   ·obtain ⟨e1, e2⟩ := fini hop
    subst e1 e2
    have e0 : decide (((opAt L v w : Nat) : Int) = 0) = true := decide_eq_true (by omega)
    simp only [tt, seval, hop, hb]
    refine ⟨.ag (csOf ((mBin op a b)).row), [PB L v], ⟨rfl, by rw [PB, hb]⟩, endOk ?_⟩
    simp only [tt, seval, bae, PB, mBin, zVal, z0, Expr.row_mk, hb]
   ·have e0 : decide (((opAt L v w : Nat) : Int) = 0) = false := decide_eq_false (by omega)
    have e1 : (((opAt L v w : Nat) : Int) = 0) = False := eq_false (by omega)
    rw [if_neg hop] at hm
    split at hm
    ·cases hm
    rename_i z u hz
    have hav := adv_le (L := L) (opAt_lt hop)
    have o3 := ok (w + 1) _ _ _ hz
    have o3a : v.a + 1 ≤ u.a := o3.1
    have hu := o3.2.1 hav
    have hlt := (opAt_lt hop).2
    obtain ⟨k2, p2, n2, v2, q2, m2, ks2, ss2⟩ := z
    have c2 := hf (w + 1) (by omega) (by omega) _ _ _ hz hav
    rw [Expr.row_mk] at c2
    have cst := l12Step_d L hL hT v true (fun _ => opAt_lt hop)
    rw [hpb] at cst
    simp only [tt, seval, e1]
    refine cS (cst) (by decide) ?_ ?_ <;> simp only [tt, seval, PB, muT]
    apply dDrawn_j1 5
    case h1 =>
     refine dDrawn.intro [55] (.take 0 (.take 2 (.take 3 (.take 4 (.br 1 (.br 5 (.br 6 (.take 7 (.br 8 .done .nobr)) .nobr) .nobr) (.br 5 (.take 1 (.br 6 (.take 7 (.br 8 .done .nobr)) .nobr)) .nobr)))))) (by kernel_rfl) ?_
     simp only [tt, seval]
     all_goals repeat' first | refine brC ?_ ?_ | refine brC2 ?_ ?_
     all_goals
      refine cS (c2) (by decide) ?_ ?_
      ·simp (config := { maxSteps := 2000000 }) only [tt, seval, PB, ew]
       decide
      simp (config := { maxSteps := 2000000 }) only [tt, seval, PB, ew]
     all_goals exact ⟨rfl, rfl, rfl⟩
    case h2 =>
     intro f' hj0
     refine ⟨[.ren 56 10056], by decide, by decide, ?_⟩
     simp only [tt, seval]
     refine ⟨[(9000, .str (PB L u)), (5, .str [.v (.int .i64 4), .v (.int .i64 (opAt L v w)), .v (.bool false), .v (.int .i64 0), .v (.int .i64 0), .v (.string ByteArray.empty), .v (.string ByteArray.empty), .v (.string ByteArray.empty), .s 10056 2, .v (.slice none 0 0)]), (10056, .arr 29 2 ([(mBin op a b), (Expr.mk k2 p2 n2 v2 q2 m2 ks2 ss2)].flatMap Expr.row) none), (4, .str [.v (.int .i64 0), .v (.int .i64 0), .v (.bool false), .v (.int .i64 0), .v (.int .i64 0), .v (.string ByteArray.empty), .v (.string ByteArray.empty), .v (.string ByteArray.empty), .v (.slice none 0 0), .v (.slice none 0 0)])], none, by simp only [bae, PB, mBin, zVal, z0, Expr.row_mk, List.flatMap_nil, List.flatMap_cons, List.append_nil, List.length_nil, List.length_cons]; exact SubO.cons rfl (SubO.cons rfl (SubO.cons rfl (SubO.cons rfl (SubO.nil _)))), PoSub.none _, ⟨mBin (opAt L v w) (mBin op a b) (Expr.mk k2 p2 n2 v2 q2 m2 ks2 ss2), u, n, hm, hu, .inr ⟨_, (mBin op a b), (Expr.mk k2 p2 n2 v2 q2 m2 ks2 ss2), rfl, rfl⟩, rfl⟩, ?_⟩
     show L.length - ((u.a : Int)).toNat < L.length - ((v.a : Int)).toNat
     omega
theorem l12Source_d (L : List Tok) (hL : L.length ≤ 1048576) (hT : ∀ t ∈ L, t.text.size ≤ 1048576) (s : PS) (ha : s.a ≤ L.length) : Cl Tryz.prog 245 [.c (.p 9000 0)] [PB L s] fun r os => r = .ag (csOf (sourceM L s).1.row) ∧ os = [PB L (sourceM L s).2] := by
 refine cl_of_d follows_mixed false Tryz.func245 rfl (by kernel_rfl) ?_
 simp only [Tryz.f245, tt, seval]
 refine cS (l12Text_d L hL hT s 2 (by omega) ha) (by decide) ?_ ?_ <;> simp only [tt, seval, PB]
 have ha1 := (Ok.mText (L := L) 2 s).2.1 ha
 have he : sourceM L s = (.mk (mText L 2 s).1 (asM L (mText L 2 s).2).1 [], (asM L (mText L 2 s).2).2) := rfl
 rw [he]
 generalize (mText L 2 s).1 = x at *
 generalize (mText L 2 s).2 = u at *
 refine cS (l12As_d L hL hT u ha1) (by decide) ?_ ?_ <;> simp only [tt, seval, PB]
 refine ⟨.ag (csOf (Source.mk x (asM L u).1 []).row), [PB L (asM L u).2], ⟨rfl, rfl⟩, endOk ?_⟩
 simp only [tt, seval, PB, Source.row_mk]
def SpL (L : List Tok) (fn : FuncId) (m : PM (List Expr)) : Prop := ∀ s x s', m s = some (x, s') → s.a ≤ L.length → Cl Tryz.prog fn [.c (.p 9000 0)] [PB L s] fun r os => r = .c (.sl x.length (x.flatMap Expr.row) none) ∧ os = [PB L s']
theorem l12Where_step (L : List Tok) (hL : L.length ≤ 1048576) (hT : ∀ t ∈ L, t.text.size ≤ 1048576) {f : Nat → PM Expr} (hf1 : SpE L 129 [vi 1] (f 1)) : SpL L 246 (whereM L f) := by
 intro s x s' h ha
 unfold whereM at h
 refine cl_of_d follows_mixed false Tryz.func246 rfl (by kernel_rfl) ?_
 simp only [Tryz.f246, tt, seval]
 refine cS (l12Maybe_d L hL hT s 6 (by omega) (by omega) ha) (by decide) ?_ ?_ <;> simp only [tt, seval, PB]
 cases c6 : isKey L s 6 with
 | true =>
  rw [if_pos c6] at h
  split at h
  ·cases h
  rename_i e s1 he
  injection h with h; injection h with h1 h2; subst h1 h2
  simp only [tt, seval, tkT]
  obtain ⟨k1, p1, n1, v1, q1, m1, ks1, ss1⟩ := e
  have c1 := hf1 _ _ _ he (adv_le (isKey_lt c6))
  rw [Expr.row_mk] at c1
  refine cS (c1) (by decide) ?_ ?_ <;> simp only [tt, seval, PB]
  refine ⟨.c (.sl [(Expr.mk k1 p1 n1 v1 q1 m1 ks1 ss1)].length ([(Expr.mk k1 p1 n1 v1 q1 m1 ks1 ss1)].flatMap Expr.row) none), [PB L s1], ⟨rfl, rfl⟩, endOk ?_⟩
  simp only [tt, seval, PB, Expr.row_mk]
 | false =>
  rw [if_neg (by rw [c6]; simp)] at h
  injection h with h; injection h with h1 h2; subst h1 h2
  simp only [tt, seval, tkF]
  refine ⟨.c (.sl ([] : List Expr).length (([] : List Expr).flatMap Expr.row) none), [PB L s], ⟨rfl, rfl⟩, endOk ?_⟩
  simp only [tt, seval, PB]
theorem key_two {L : List Tok} {s : PS} (h : isKey L s 9 = true) : isKey L s 10 = false := by
 unfold isKey isT at h ⊢
 cases ht : tkAt L s 0 with
 | none => rfl
 | some t =>
  rw [ht] at h
  simp only [Bool.and_eq_true, decide_eq_true_eq] at h
  simp only [h.1, h.2]
  decide +kernel
theorem l12Sort_step (L : List Tok) (hL : L.length ≤ 1048576) (hT : ∀ t ∈ L, t.text.size ≤ 1048576) {f : Nat → PM Expr} (ok : ∀ lv, OkM (L := L) (f lv)) (hf1 : SpE L 129 [vi 1] (f 1)) (s : PS) (x : SortKey) (s' : PS) (h : sortM L f s = some (x, s')) (ha : s.a ≤ L.length) : Cl Tryz.prog 247 [.c (.p 9000 0)] [PB L s] fun r os => r = .ag (csOf x.row) ∧ os = [PB L s'] := by
 unfold sortM at h
 split at h
 ·cases h
 rename_i e s1 he
 have ha1 := (ok 1 _ _ _ he).2.1 ha
 obtain ⟨k1, p1, n1, v1, q1, m1, ks1, ss1⟩ := e
 have c1 := hf1 _ _ _ he ha
 rw [Expr.row_mk] at c1
 refine cl_of_d follows_mixed false Tryz.func247 rfl (by kernel_rfl) ?_
 simp only [Tryz.f247, tt, seval]
 refine cS (c1) (by decide) ?_ ?_ <;> simp only [tt, seval, PB]
 cases c9 : isKey L s1 9 with
 | true =>
  have c10 := key_two c9
  rw [if_pos c9] at h
  injection h with h; injection h with h1 h2; subst h1 h2
  refine cS (l12Maybe_d L hL hT s1 10 (by omega) (by omega) ha1) (by decide) ?_ ?_ <;> simp only [tt, seval, PB]
  simp only [tt, seval, c10, tkF]
  refine cS (l12Maybe_d L hL hT s1 9 (by omega) (by omega) ha1) (by decide) ?_ ?_ <;> simp only [tt, seval, PB]
  simp only [seval, c9, tkT]
  refine ⟨.ag (csOf (SortKey.mk (Expr.mk k1 p1 n1 v1 q1 m1 ks1 ss1) false).row), [PB L (adv s1)], ⟨rfl, rfl⟩, endOk ?_⟩
  simp only [tt, seval, PB, Expr.row_mk, SortKey.row_mk]
 | false =>
  rw [if_neg (by rw [c9]; simp)] at h
  injection h with h; injection h with h1 h2; subst h1 h2
  refine cS (l12Maybe_d L hL hT s1 10 (by omega) (by omega) ha1) (by decide) ?_ ?_ <;> simp only [tt, seval, PB]
  cases c10 : isKey L s1 10 with
  | true =>
   simp only [tt, seval, tkT]
   refine ⟨.ag (csOf (SortKey.mk (Expr.mk k1 p1 n1 v1 q1 m1 ks1 ss1) true).row), [PB L (adv s1)], ⟨rfl, rfl⟩, endOk ?_⟩
   simp only [tt, seval, PB, Expr.row_mk, SortKey.row_mk]
  | false =>
   simp only [tt, seval, tkF]
   refine cS (l12Maybe_d L hL hT s1 9 (by omega) (by omega) ha1) (by decide) ?_ ?_ <;> simp only [tt, seval, PB]
   simp only [seval, c9, tkF]
   refine ⟨.ag (csOf (SortKey.mk (Expr.mk k1 p1 n1 v1 q1 m1 ks1 ss1) false).row), [PB L s1], ⟨rfl, rfl⟩, endOk ?_⟩
   simp only [tt, seval, PB, Expr.row_mk, SortKey.row_mk]
theorem star_b (L : List Tok) (s : PS) : starN L s = (isK L s 2 && (decide ((nxT L s 1).kind = 5) && decide ((nxT L s 1).text = ⟨#[46]⟩) && (decide ((nxT L s 2).kind = 5) && decide ((nxT L s 2).text = ⟨#[42]⟩)))) := by
 rw [nx_T L s 1 5 _ (by decide), nx_T L s 2 5 _ (by decide)]; rfl
set_option maxHeartbeats 2000000 in
theorem l12Item_step (L : List Tok) (hL : L.length ≤ 1048576) (hT : ∀ t ∈ L, t.text.size ≤ 1048576) {f : Nat → PM Expr} (ok : ∀ lv, OkM (L := L) (f lv)) (hf1 : SpE L 129 [vi 1] (f 1)) (s : PS) (x : Item) (s' : PS) (h : itemM L f s = some (x, s')) (ha : s.a ≤ L.length) : Cl Tryz.prog 244 [.c (.p 9000 0)] [PB L s] fun r os => r = .ag (csOf x.row) ∧ os = [PB L s'] := by
 unfold itemM at h
 refine cl_of_d follows_mixed false Tryz.func244 rfl (by kernel_rfl) ?_
 simp only [Tryz.f244, tt, seval]
 refine cS (l12Next_d L hL hT s 1 (by omega) ha) (by decide) ?_ ?_ <;> simp only [tt, seval, PB, Tok.row]
 refine cS (l12Next_d L hL hT s 2 (by omega) ha) (by decide) ?_ ?_ <;> simp only [tt, seval, PB, Tok.row]
 refine cS (l12SignC_d L hL hT s 42 ha) (by decide) ?_ ?_ <;> simp only [tt, seval, PB]
 cases c42 : isSg L s 42 with
 | true =>
  rw [if_pos c42] at h
  injection h with h; injection h with h1 h2; subst h1 h2
  simp only [tt, seval]
  refine cS (l12Step_d L hL hT s true (fun _ => isSg_lt c42)) (by decide) ?_ ?_ <;> simp only [tt, seval, PB, muT]
  refine ⟨.ag (csOf (Item.mk true z0 zExpr z0).row), [PB L (adv s)], ⟨rfl, rfl⟩, endOk ?_⟩
  simp only [tt, seval, bae, PB, zExpr, zVal, z0, Expr.row_mk, Item.row_mk]
 | false =>
 rw [if_neg (by rw [c42]; simp)] at h
 simp only [tt, seval]
 refine cS (l12Kind_d L hL hT s 2 (by omega) ha) (by decide) ?_ ?_ <;> simp only [tt, seval, PB]
 refine And.intro (fun hK => ?_) (fun hK => ?_)
 ·simp only [tt, seval, hK]
  refine And.intro (fun g0 => ?_) (fun g0 => ?_)
  ·simp only [tt, seval, g0]
   refine And.intro (fun g1 => ?_) (fun g1 => ?_)
   ·simp only [tt, seval, g1]
    refine And.intro (fun g2 => ?_) (fun g2 => ?_)
    ·simp only [tt, seval, g2]
     refine And.intro (fun g3 => ?_) (fun g3 => ?_)
     ·simp only [tt, seval, g3]
      have hst : starN L s = true := by rw [star_b, hK, g0, g1, g2, g3]; rfl
      rw [if_pos hst] at h
      injection h with h; injection h with h1 h2; subst h1 h2
      have l3 := (starN_lt hst).2
      have l1 := isK_lt hK
      have ha1 := adv_le (L := L) l1
      refine cS (l12Text_d L hL hT s 2 (by omega) ha) (by decide) ?_ ?_ <;> simp only [tt, seval, PB]
      rw [mt_yes hK]
      simp only [seval]
      refine cS (l12Step_d L hL hT (adv s) true (fun _ => ⟨l1.1, by show s.a + 1 < L.length; omega⟩)) (by decide) ?_ ?_ <;> simp only [tt, seval, PB, muT]
      refine cS (l12Step_d L hL hT (adv (adv s)) true (fun _ => ⟨l1.1, by show s.a + 1 + 1 < L.length; omega⟩)) (by decide) ?_ ?_ <;> simp only [tt, seval, PB, muT]
      refine ⟨.ag (csOf (Item.mk true (textAt L s) zExpr z0).row), [PB L (adv (adv (adv s)))], ⟨rfl, rfl⟩, endOk ?_⟩
      simp only [tt, seval, bae, PB, zExpr, zVal, z0, Expr.row_mk, Item.row_mk]
     ·simp only [tt, seval, g3]
      have hsf : starN L s = false := by first | (rw [star_b, g3]; simp only [Bool.false_and, Bool.and_false]) | (rw [star_b, decide_eq_false g3]; simp only [Bool.and_false])
      rw [if_neg (by rw [hsf]; simp)] at h
      split at h
      ·cases h
      rename_i e s1 he
      injection h with h; injection h with h1 h2; subst h1 h2
      have ha1 := (ok 1 _ _ _ he).2.1 ha
      obtain ⟨k1, p1, n1, v1, q1, m1, ks1, ss1⟩ := e
      have c1 := hf1 _ _ _ he ha
      rw [Expr.row_mk] at c1
      refine cS (c1) (by decide) ?_ ?_ <;> simp only [tt, seval, PB]
      apply dDrawn_j1 2
      case h1 =>
       refine dDrawn.intro [50] (.take 1 (.br 0 (.br 2 (.take 3 (.br 4 .done .nobr)) .nobr) (.br 2 (.take 0 (.take 3 (.br 4 .done .nobr))) .nobr))) (by kernel_rfl) ?_
       simp only [tt, seval]
       all_goals repeat' first | refine brC ?_ ?_ | refine brC2 ?_ ?_
       all_goals
        refine cS (l12As_d L hL hT s1 ha1) (by decide) ?_ ?_
        ·simp only [tt, seval, PB]
         decide
        simp only [tt, seval, PB]
       all_goals exact ⟨rfl, rfl, rfl⟩
      case h2 =>
       intro f' hj0
       simp only [tt, seval, hj0]
       refine ⟨.ag (csOf (Item.mk false z0 (Expr.mk k1 p1 n1 v1 q1 m1 ks1 ss1) (asM L s1).1).row), [PB L (asM L s1).2], ⟨rfl, rfl⟩, endOk ?_⟩
       simp only [tt, seval, bae, PB, z0, Expr.row_mk, Item.row_mk]
    ·simp only [tt, seval, g2]
     have hsf : starN L s = false := by first | (rw [star_b, g2]; simp only [Bool.false_and, Bool.and_false]) | (rw [star_b, decide_eq_false g2]; simp only [Bool.false_and, Bool.and_false])
     rw [if_neg (by rw [hsf]; simp)] at h
     split at h
     ·cases h
     rename_i e s1 he
     injection h with h; injection h with h1 h2; subst h1 h2
     have ha1 := (ok 1 _ _ _ he).2.1 ha
     obtain ⟨k1, p1, n1, v1, q1, m1, ks1, ss1⟩ := e
     have c1 := hf1 _ _ _ he ha
     rw [Expr.row_mk] at c1
     refine cS (c1) (by decide) ?_ ?_ <;> simp only [tt, seval, PB]
     apply dDrawn_j1 2
     case h1 =>
      refine dDrawn.intro [50] (.take 1 (.br 0 (.br 2 (.take 3 (.br 4 .done .nobr)) .nobr) (.br 2 (.take 0 (.take 3 (.br 4 .done .nobr))) .nobr))) (by kernel_rfl) ?_
      simp only [tt, seval]
      all_goals repeat' first | refine brC ?_ ?_ | refine brC2 ?_ ?_
      all_goals
       refine cS (l12As_d L hL hT s1 ha1) (by decide) ?_ ?_
       ·simp only [tt, seval, PB]
        decide
       simp only [tt, seval, PB]
      all_goals exact ⟨rfl, rfl, rfl⟩
     case h2 =>
      intro f' hj0
      simp only [tt, seval, hj0]
      refine ⟨.ag (csOf (Item.mk false z0 (Expr.mk k1 p1 n1 v1 q1 m1 ks1 ss1) (asM L s1).1).row), [PB L (asM L s1).2], ⟨rfl, rfl⟩, endOk ?_⟩
      simp only [tt, seval, bae, PB, z0, Expr.row_mk, Item.row_mk]
   ·simp only [tt, seval, g1]
    have hsf : starN L s = false := by first | (rw [star_b, g1]; simp only [Bool.false_and, Bool.and_false]) | (rw [star_b, decide_eq_false g1]; simp only [Bool.false_and, Bool.and_false])
    rw [if_neg (by rw [hsf]; simp)] at h
    split at h
    ·cases h
    rename_i e s1 he
    injection h with h; injection h with h1 h2; subst h1 h2
    have ha1 := (ok 1 _ _ _ he).2.1 ha
    obtain ⟨k1, p1, n1, v1, q1, m1, ks1, ss1⟩ := e
    have c1 := hf1 _ _ _ he ha
    rw [Expr.row_mk] at c1
    refine cS (c1) (by decide) ?_ ?_ <;> simp only [tt, seval, PB]
    apply dDrawn_j1 2
    case h1 =>
     refine dDrawn.intro [50] (.take 1 (.br 0 (.br 2 (.take 3 (.br 4 .done .nobr)) .nobr) (.br 2 (.take 0 (.take 3 (.br 4 .done .nobr))) .nobr))) (by kernel_rfl) ?_
     simp only [tt, seval]
     all_goals repeat' first | refine brC ?_ ?_ | refine brC2 ?_ ?_
     all_goals
      refine cS (l12As_d L hL hT s1 ha1) (by decide) ?_ ?_
      ·simp only [tt, seval, PB]
       decide
      simp only [tt, seval, PB]
     all_goals exact ⟨rfl, rfl, rfl⟩
    case h2 =>
     intro f' hj0
     simp only [tt, seval, hj0]
     refine ⟨.ag (csOf (Item.mk false z0 (Expr.mk k1 p1 n1 v1 q1 m1 ks1 ss1) (asM L s1).1).row), [PB L (asM L s1).2], ⟨rfl, rfl⟩, endOk ?_⟩
     simp only [tt, seval, bae, PB, z0, Expr.row_mk, Item.row_mk]
  ·simp only [tt, seval, g0]
   have hsf : starN L s = false := by first | (rw [star_b, g0]; simp only [Bool.false_and, Bool.and_false]) | (rw [star_b, decide_eq_false g0]; simp only [Bool.false_and, Bool.and_false])
   rw [if_neg (by rw [hsf]; simp)] at h
   split at h
   ·cases h
   rename_i e s1 he
   injection h with h; injection h with h1 h2; subst h1 h2
   have ha1 := (ok 1 _ _ _ he).2.1 ha
   obtain ⟨k1, p1, n1, v1, q1, m1, ks1, ss1⟩ := e
   have c1 := hf1 _ _ _ he ha
   rw [Expr.row_mk] at c1
   refine cS (c1) (by decide) ?_ ?_ <;> simp only [tt, seval, PB]
   apply dDrawn_j1 2
   case h1 =>
    refine dDrawn.intro [50] (.take 1 (.br 0 (.br 2 (.take 3 (.br 4 .done .nobr)) .nobr) (.br 2 (.take 0 (.take 3 (.br 4 .done .nobr))) .nobr))) (by kernel_rfl) ?_
    simp only [tt, seval]
    all_goals repeat' first | refine brC ?_ ?_ | refine brC2 ?_ ?_
    all_goals
     refine cS (l12As_d L hL hT s1 ha1) (by decide) ?_ ?_
     ·simp only [tt, seval, PB]
      decide
     simp only [tt, seval, PB]
    all_goals exact ⟨rfl, rfl, rfl⟩
   case h2 =>
    intro f' hj0
    simp only [tt, seval, hj0]
    refine ⟨.ag (csOf (Item.mk false z0 (Expr.mk k1 p1 n1 v1 q1 m1 ks1 ss1) (asM L s1).1).row), [PB L (asM L s1).2], ⟨rfl, rfl⟩, endOk ?_⟩
    simp only [tt, seval, bae, PB, z0, Expr.row_mk, Item.row_mk]
 ·simp only [tt, seval, hK]
  have hsf : starN L s = false := by rw [star_b, hK]; rfl
  rw [if_neg (by rw [hsf]; simp)] at h
  split at h
  ·cases h
  rename_i e s1 he
  injection h with h; injection h with h1 h2; subst h1 h2
  have ha1 := (ok 1 _ _ _ he).2.1 ha
  obtain ⟨k1, p1, n1, v1, q1, m1, ks1, ss1⟩ := e
  have c1 := hf1 _ _ _ he ha
  rw [Expr.row_mk] at c1
  refine cS (c1) (by decide) ?_ ?_ <;> simp only [tt, seval, PB]
  apply dDrawn_j1 2
  case h1 =>
   refine dDrawn.intro [50] (.take 1 (.br 0 (.br 2 (.take 3 (.br 4 .done .nobr)) .nobr) (.br 2 (.take 0 (.take 3 (.br 4 .done .nobr))) .nobr))) (by kernel_rfl) ?_
   simp only [tt, seval]
   all_goals repeat' first | refine brC ?_ ?_ | refine brC2 ?_ ?_
   all_goals
    refine cS (l12As_d L hL hT s1 ha1) (by decide) ?_ ?_
    ·simp only [tt, seval, PB]
     decide
    simp only [tt, seval, PB]
   all_goals exact ⟨rfl, rfl, rfl⟩
  case h2 =>
   intro f' hj0
   simp only [tt, seval, hj0]
   refine ⟨.ag (csOf (Item.mk false z0 (Expr.mk k1 p1 n1 v1 q1 m1 ks1 ss1) (asM L s1).1).row), [PB L (asM L s1).2], ⟨rfl, rfl⟩, endOk ?_⟩
   simp only [tt, seval, bae, PB, z0, Expr.row_mk, Item.row_mk]
theorem l12End_d (L : List Tok) (hL : L.length ≤ 1048576) (hT : ∀ t ∈ L, t.text.size ≤ 1048576) (s : PS) (ha : s.a ≤ L.length) : Cl Tryz.prog 130 [.c (.p 9000 0)] [PB L s] fun r os => r = vi (endM L s) ∧ os = [PB L s] := by
 refine cl_of_d follows_mixed false Tryz.func130 rfl (by kernel_rfl) ?_
 simp only [Tryz.f130, tt, seval]
 simp only [tt, seval, PB]
 cases hb : s.b with
 | true =>
  have e : endM L s = s.a := if_neg (by rw [hb]; simp)
  rw [e]
  refine dDrawn.intro [] (pln [0, 2, 4, 6, 8, 10, 12, 14, 16, 18, 20, 22, 24, 26, 28, 30, 32]) (by kernel_rfl) ?_
  simp only [tt, seval]
  exact ⟨_, _, ⟨rfl, rfl⟩, endOk (by simp only [tt, seval])⟩
 | false =>
  refine dDrawn.intro [] (pln [0, 2, 4, 6, 8, 10, 12, 14, 16, 18, 20, 22, 24, 26, 28, 30, 32]) (by kernel_rfl) ?_
  simp only [tt, seval]
  refine fun _ => And.intro (fun he => ?_) (fun he => ?_)
  ·have e : endM L s = -1 := if_pos ⟨hb, by omega⟩
   rw [e]
   exact ⟨_, _, ⟨rfl, rfl⟩, endOk (by simp only [tt, seval])⟩
  ·have e : endM L s = s.a := if_neg (by omega)
   rw [e]
   exact ⟨_, _, ⟨rfl, rfl⟩, endOk (by simp only [tt, seval])⟩
theorem mt_small {L : List Tok} (hL : L.length ≤ 1048576) (hT : ∀ t ∈ L, t.text.size ≤ 1048576) (s : PS) (k : Int) : (mText L k s).1.size ≤ 1048576 := by
 unfold mText
 split
 ·exact text_small hL hT s
 ·exact Nat.zero_le _
set_option maxHeartbeats 16000000 in
theorem l12Query_step (L : List Tok) (hL : L.length ≤ 1048576) (hT : ∀ t ∈ L, t.text.size ≤ 1048576) {f : Nat → PM Expr} (ok : ∀ lv, OkM (L := L) (f lv)) (hf1 : SpE L 129 [vi 1] (f 1)) : SpQ L 231 (stepQ L f) := by
 intro s x s' h ha
 unfold stepQ at h
 simp only at h
 refine cl_of_d follows_mixed false Tryz.func231 rfl (by kernel_rfl) ?_
 simp only [Tryz.f231, tt, seval]
 refine cS (l12Key_d L hL hT s 1 (by omega) (by omega) ha) (by decide) ?_ ?_ <;> simp (config := { maxSteps := 4000000 }) only [tt, seval, PB]
 refine cS (l12Step_d L hL hT s (isKey L s 1) (fun h => isKey_lt h)) (by decide) ?_ ?_ <;> simp (config := { maxSteps := 4000000 }) only [tt, seval, PB]
 have o1 : Ok L s (must (isKey L s 1) s) := Ok.must fun h => isKey_lt h
 have ha1 := o1.2.1 ha
 generalize must (isKey L s 1) s = u1 at *
 refine cS (l12Maybe_d L hL hT u1 2 (by omega) (by omega) ha1) (by decide) ?_ ?_ <;> simp (config := { maxSteps := 4000000 }) only [tt, seval, PB]
 have o2 : Ok L u1 (tkIf (isKey L u1 2) u1) := Ok.tkIf fun h => isKey_lt h
 have ha2 := o2.2.1 ha1
 generalize tkIf (isKey L u1 2) u1 = u2 at *
 generalize isKey L u1 2 = dist at *
 split at h
 ·cases h
 rename_i its u3 hits
 unfold itemsM at hits
 split at hits
 ·cases hits
 rename_i it1 v1 hit1
 have c1 := l12Item_step L hL hT ok hf1 _ _ _ hit1 ha2
 obtain ⟨star1, qual1, ⟨k1, p1, n1, w1, q1, m1, ks1, ss1⟩, as1⟩ := it1
 rw [Item.row_mk, Expr.row_mk] at c1
 have hav1 := (OkM.item ok _ _ _ hit1).2.1 ha2
 apply dDrawn_j3 0 2 3
 case h1 =>
  refine dDrawn.intro [16] (.take 0 (.take 2 (.br 1 (.br 3 (.br 4 (.br 5 (.take 6 (.br 7 .done .nobr)) .nobr) .nobr) .nobr) (.br 3 (.take 1 (.br 4 (.br 5 (.take 6 (.br 7 .done .nobr)) .nobr) .nobr)) .nobr)))) (by kernel_rfl) ?_
  simp (config := { maxSteps := 4000000 }) only [tt, seval]
  all_goals repeat' first | refine brC ?_ ?_ | refine brC2 ?_ ?_
  all_goals
   refine cS (c1) (by decide) ?_ ?_
   ·simp (config := { maxSteps := 4000000 }) only [tt, seval, PB]
    decide
   simp (config := { maxSteps := 4000000 }) only [tt, seval, PB]
  all_goals repeat' first | refine brA ?_ ?_ | refine brA2 ?_ ?_ | refine brA3 ?_ ?_
  all_goals
   refine ⟨by kernel_rfl, ⟨by simp only [maxLen]; omega, by omega⟩, ?_⟩
  all_goals exact ⟨rfl, rfl, rfl, rfl, rfl⟩
 case h2 =>
  intro f' hj0 hj1 hj2
  simp (config := { maxSteps := 4000000 }) only [tt, seval]
  refine dLoop.gh [.ren 18 29] ⟨by decide, by decide, ?_⟩
  refine dLoop0.intro (fun f' Lo p => ∃ (m : List Item) (v : PS) (n : Nat), sepM L (itemM L f) n m v = some (its, u3) ∧ v.a ≤ L.length ∧ m.length ≤ v.a + 1 ∧ Lo = [(9000, .str (PB L v)), (3, .str [.v (.bool dist), .s 29 (m).length, .v (.slice none 0 0), .v (.slice none 0 0), .v (.slice none 0 0), .v (.int .i64 (-1))]), (29, .arr 132 (m).length ((m).flatMap Item.row) none), (2, .str [.v (.bool false), .v (.slice none 0 0), .v (.slice none 0 0), .v (.slice none 0 0), .v (.slice none 0 0), .v (.int .i64 0)])] ∧ p = none) (fun _ Lo _ => L.length - atS Lo) [(9000, .str (PB L v1)), (3, .str [.v (.bool dist), .s 29 ([(Item.mk star1 qual1 (Expr.mk k1 p1 n1 w1 q1 m1 ks1 ss1) as1)]).length, .v (.slice none 0 0), .v (.slice none 0 0), .v (.slice none 0 0), .v (.int .i64 (-1))]), (29, .arr 132 ([(Item.mk star1 qual1 (Expr.mk k1 p1 n1 w1 q1 m1 ks1 ss1) as1)]).length (([(Item.mk star1 qual1 (Expr.mk k1 p1 n1 w1 q1 m1 ks1 ss1) as1)]).flatMap Item.row) none), (2, .str [.v (.bool false), .v (.slice none 0 0), .v (.slice none 0 0), .v (.slice none 0 0), .v (.slice none 0 0), .v (.int .i64 0)])] none ⟨by simp only [PB, Expr.row_mk, List.flatMap_nil, List.flatMap_cons, List.append_nil, List.length_nil, List.length_cons, Item.row_mk, lc]; exact SubO.cons rfl (SubO.cons rfl (SubO.cons rfl (SubO.cons rfl (SubO.nil _)))), PoSub.none _, ?_⟩ ?_
  ·simp (config := { maxSteps := 4000000 }) only [tt, seval]
   exact ⟨[(Item.mk star1 qual1 (Expr.mk k1 p1 n1 w1 q1 m1 ks1 ss1) as1)], v1, L.length + 1, hits, hav1, by simp, rfl⟩
  ·rintro g' Lo p ⟨m, v, n, hm, hv, hml, rfl, rfl⟩
   simp (config := { maxSteps := 4000000 }) only [tt, seval, hj0]
   refine cS (l12SignC_d L hL hT v 44 hv) (by decide) ?_ ?_ <;> simp (config := { maxSteps := 4000000 }) only [tt, seval, PB, hj0]
   cases n with
   | zero => cases hm
   | succ n =>
   rw [sepM] at hm
   cases c44 : isSg L v 44 with
   | true =>
    rw [if_pos c44] at hm
    split at hm
    ·cases hm
    rename_i z w hz
    obtain ⟨hb, hlt⟩ := isSg_lt c44
    have hav := adv_le (L := L) (isSg_lt c44)
    have o3 := OkM.item ok _ _ _ hz
    have o3a : v.a + 1 ≤ w.a := o3.1
    have hw := o3.2.1 hav
    have c2 := l12Item_step L hL hT ok hf1 _ _ _ hz hav
    obtain ⟨star2, qual2, ⟨k2, p2, n2, w2, q2, m2, ks2, ss2⟩, as2⟩ := z
    rw [Item.row_mk, Expr.row_mk] at c2
    simp (config := { maxSteps := 4000000 }) only [tt, seval]
    refine cS (l12Step_d L hL hT v true (fun _ => isSg_lt c44)) (by decide) ?_ ?_ <;> simp (config := { maxSteps := 4000000 }) only [tt, seval, PB, muT]
    apply dDrawn_j1 3
    case h1 =>
     refine dDrawn.intro [27] (.take 0 (.take 2 (.br 1 (.br 3 (.br 4 (.br 5 (.take 6 (.br 7 .done .nobr)) .nobr) .nobr) .nobr) (.br 3 (.take 1 (.br 4 (.br 5 (.take 6 (.br 7 .done .nobr)) .nobr) .nobr)) .nobr)))) (by kernel_rfl) ?_
     simp (config := { maxSteps := 4000000 }) only [tt, seval]
     all_goals try simp (config := { maxSteps := 4000000 }) only [tt, seval, hj0, hj2]
     all_goals repeat' first | refine brC ?_ ?_ | refine brC2 ?_ ?_
     all_goals
      refine cS (c2) (by decide) ?_ ?_
      ·simp (config := { maxSteps := 4000000 }) only [tt, seval, PB]
       decide
      simp (config := { maxSteps := 4000000 }) only [tt, seval, PB, hj2]
     all_goals repeat' first | refine brA ?_ ?_ | refine brA2 ?_ ?_ | refine brA3 ?_ ?_
     all_goals
      refine ⟨by kernel_rfl, ⟨by simp only [maxLen]; omega, by omega⟩, ?_⟩
     all_goals exact ⟨rfl, rfl, rfl⟩
    case h2 =>
     intro f' hk0
     refine ⟨[(9000, .str (PB L w)), (3, .str [.v (.bool dist), .s 29 ((m ++ [(Item.mk star2 qual2 (Expr.mk k2 p2 n2 w2 q2 m2 ks2 ss2) as2)])).length, .v (.slice none 0 0), .v (.slice none 0 0), .v (.slice none 0 0), .v (.int .i64 (-1))]), (29, .arr 132 ((m ++ [(Item.mk star2 qual2 (Expr.mk k2 p2 n2 w2 q2 m2 ks2 ss2) as2)])).length (((m ++ [(Item.mk star2 qual2 (Expr.mk k2 p2 n2 w2 q2 m2 ks2 ss2) as2)])).flatMap Item.row) none), (2, .str [.v (.bool false), .v (.slice none 0 0), .v (.slice none 0 0), .v (.slice none 0 0), .v (.slice none 0 0), .v (.int .i64 0)])], none, by simp only [PB, Expr.row_mk, List.flatMap_nil, List.flatMap_cons, List.append_nil, List.length_nil, List.length_cons, Item.row_mk, lc, List.flatMap_append, List.length_append]; exact SubO.cons rfl (SubO.cons rfl (SubO.cons rfl (SubO.cons rfl (SubO.nil _)))), PoSub.none _, ⟨m ++ [(Item.mk star2 qual2 (Expr.mk k2 p2 n2 w2 q2 m2 ks2 ss2) as2)], w, n, hm, hw, by simp; omega, rfl, rfl⟩, ?_⟩
     show L.length - ((w.a : Int)).toNat < L.length - ((v.a : Int)).toNat
     omega
   | false =>
    rw [if_neg (by rw [c44]; simp)] at hm
    injection hm with hm; injection hm with e1 e2; subst e1 e2
    simp (config := { maxSteps := 4000000 }) only [tt, seval]
    refine cS (l12Key_d L hL hT v 3 (by omega) (by omega) hv) (by decide) ?_ ?_ <;> simp (config := { maxSteps := 4000000 }) only [tt, seval, PB]
    refine cS (l12Step_d L hL hT v (isKey L v 3) (fun h => isKey_lt h)) (by decide) ?_ ?_ <;> simp (config := { maxSteps := 4000000 }) only [tt, seval, PB]
    have o4 : Ok L v (must (isKey L v 3) v) := Ok.must fun h => isKey_lt h
    have ha4 := o4.2.1 hv
    generalize must (isKey L v 3) v = u4 at *
    have c3 := l12Source_d L hL hT u4 ha4
    have ha5 := (Ok.sourceM (L := L) u4).2.1 ha4
    generalize (sourceM L u4).2 = v5 at *
    generalize (sourceM L u4).1 = sr1 at *
    obtain ⟨tb1, sa1, on1⟩ := sr1
    rw [Source.row_mk] at c3
    apply dDrawn_j3 0 2 3
    case h1 =>
     refine dDrawn.intro [38] (.take 0 (.take 2 (.br 1 (.br 3 (.br 4 (.br 5 (.take 6 (.br 7 .done .nobr)) .nobr) .nobr) .nobr) (.br 3 (.take 1 (.br 4 (.br 5 (.take 6 (.br 7 .done .nobr)) .nobr) .nobr)) .nobr)))) (by kernel_rfl) ?_
     simp (config := { maxSteps := 4000000 }) only [tt, seval]
     all_goals try simp (config := { maxSteps := 4000000 }) only [tt, seval, hj0, hj2]
     all_goals repeat' first | refine brC ?_ ?_ | refine brC2 ?_ ?_
     all_goals
      refine cS (c3) (by decide) ?_ ?_
      ·simp (config := { maxSteps := 4000000 }) only [tt, seval, PB]
       decide
      simp (config := { maxSteps := 4000000 }) only [tt, seval, PB, hj0, hj1, hj2]
     all_goals repeat' first | refine brA ?_ ?_ | refine brA2 ?_ ?_ | refine brA3 ?_ ?_
     all_goals
      refine ⟨by kernel_rfl, ⟨by simp only [maxLen]; omega, by omega⟩, ?_⟩
     all_goals exact ⟨rfl, rfl, rfl, rfl, rfl⟩
    case h2 =>
     intro f' hi0 hi1 hi2
     simp (config := { maxSteps := 4000000 }) only [tt, seval]
     split at h
     ·cases h
     rename_i frs s4 hfrs
     refine dLoop.gh [.ren 40 67] ⟨by decide, by decide, ?_⟩
     refine dLoop0.intro (fun f' Lo p => ∃ (l : List Source) (v : PS) (n : Nat), sourcesM L f n l v = some (frs, s4) ∧ v.a ≤ L.length ∧ l.length ≤ v.a + 1 ∧ Lo = [(9000, .str (PB L v)), (3, .str [.v (.bool dist), .s 29 m.length, .s 67 (l).length, .v (.slice none 0 0), .v (.slice none 0 0), .v (.int .i64 (-1))]), (29, .arr 132 m.length (m.flatMap Item.row) none), (67, .arr 134 (l).length ((l).flatMap Source.row) none), (2, .str [.v (.bool false), .v (.slice none 0 0), .v (.slice none 0 0), .v (.slice none 0 0), .v (.slice none 0 0), .v (.int .i64 0)])] ∧ p = none) (fun _ Lo _ => L.length - atS Lo) [(9000, .str (PB L v5)), (3, .str [.v (.bool dist), .s 29 m.length, .s 67 ([(Source.mk tb1 sa1 on1)]).length, .v (.slice none 0 0), .v (.slice none 0 0), .v (.int .i64 (-1))]), (29, .arr 132 m.length (m.flatMap Item.row) none), (67, .arr 134 ([(Source.mk tb1 sa1 on1)]).length (([(Source.mk tb1 sa1 on1)]).flatMap Source.row) none), (2, .str [.v (.bool false), .v (.slice none 0 0), .v (.slice none 0 0), .v (.slice none 0 0), .v (.slice none 0 0), .v (.int .i64 0)])] none ⟨by simp only [PB, List.flatMap_nil, List.flatMap_cons, List.append_nil, List.length_nil, List.length_cons, Source.row_mk]; exact SubO.cons rfl (SubO.cons rfl (SubO.cons rfl (SubO.cons rfl (SubO.cons rfl (SubO.nil _))))), PoSub.none _, ?_⟩ ?_
     ·simp (config := { maxSteps := 4000000 }) only [tt, seval]
      exact ⟨[(Source.mk tb1 sa1 on1)], v5, L.length + 1, hfrs, ha5, by simp, rfl⟩
     ·rintro g2 Lo p ⟨l, v6, n2, hm2, hv6, hml2, rfl, rfl⟩
      simp (config := { maxSteps := 4000000 }) only [tt, seval, hi0]
      refine cS (l12SignC_d L hL hT v6 44 hv6) (by decide) ?_ ?_ <;> simp (config := { maxSteps := 4000000 }) only [tt, seval, PB]
      cases n2 with
      | zero => cases hm2
      | succ n2 =>
      rw [sourcesM] at hm2
      cases c44 : isSg L v6 44 with
      | true =>
       have k4 : isKey L v6 4 = false := by
        cases e : isKey L v6 4 with
        | false => rfl
        | true => have := key_not_sg (c := 44) e; rw [c44] at this; cases this
       rw [if_pos c44] at hm2
       have hav := adv_le (L := L) (isSg_lt c44)
       have hlt := (isSg_lt c44).2
       have c4 := l12Source_d L hL hT (adv v6) hav
       have o6 := Ok.sourceM (L := L) (adv v6)
       have o6a : v6.a + 1 ≤ (sourceM L (adv v6)).2.a := o6.1
       have hw := o6.2.1 hav
       generalize (sourceM L (adv v6)).2 = w6 at *
       generalize (sourceM L (adv v6)).1 = sr2 at *
       obtain ⟨tb2, sa2, on2⟩ := sr2
       rw [Source.row_mk] at c4
       refine And.intro (fun _ => ?_) (fun hx => by cases hx)
       simp (config := { maxSteps := 4000000 }) only [tt, seval, hi0]
       refine cS (l12Key_d L hL hT v6 4 (by omega) (by omega) hv6) (by decide) ?_ ?_ <;> simp (config := { maxSteps := 4000000 }) only [tt, seval, PB, hi0]
       simp (config := { maxSteps := 4000000 }) only [seval, k4]
       refine cS (l12Step_d L hL hT v6 true (fun _ => isSg_lt c44)) (by decide) ?_ ?_ <;> simp (config := { maxSteps := 4000000 }) only [tt, seval, PB, muT, hi0]
       refine cS (c4) (by decide) ?_ ?_ <;> simp (config := { maxSteps := 4000000 }) only [tt, seval, PB, hi0, hi2]
       refine ⟨by kernel_rfl, ⟨by simp only [maxLen]; omega, by omega⟩, ?_⟩
       refine ⟨[(9000, .str (PB L w6)), (3, .str [.v (.bool dist), .s 29 m.length, .s 67 ((l ++ [Source.mk tb2 sa2 on2])).length, .v (.slice none 0 0), .v (.slice none 0 0), .v (.int .i64 (-1))]), (29, .arr 132 m.length (m.flatMap Item.row) none), (67, .arr 134 ((l ++ [Source.mk tb2 sa2 on2])).length (((l ++ [Source.mk tb2 sa2 on2])).flatMap Source.row) none), (2, .str [.v (.bool false), .v (.slice none 0 0), .v (.slice none 0 0), .v (.slice none 0 0), .v (.slice none 0 0), .v (.int .i64 0)])], none, by simp only [PB, List.flatMap_nil, List.flatMap_cons, List.append_nil, List.length_nil, List.length_cons, Source.row_mk, List.flatMap_append, List.length_append]; exact SubO.cons rfl (SubO.cons rfl (SubO.cons rfl (SubO.cons rfl (SubO.cons rfl (SubO.nil _))))), PoSub.none _, ⟨l ++ [Source.mk tb2 sa2 on2], w6, n2, hm2, hw, by simp; omega, rfl, rfl⟩, ?_⟩
       show L.length - ((w6.a : Int)).toNat < L.length - ((v6.a : Int)).toNat
       omega
      | false =>
       rw [if_neg (by rw [c44]; simp)] at hm2
       refine And.intro (fun hx => by cases hx) (fun _ => ?_)
       simp (config := { maxSteps := 4000000 }) only [tt, seval, hi0]
       refine cS (l12Key_d L hL hT v6 4 (by omega) (by omega) hv6) (by decide) ?_ ?_ <;> simp (config := { maxSteps := 4000000 }) only [tt, seval, PB, hi0]
       cases k4 : isKey L v6 4 with
       | true =>
        rw [if_pos k4] at hm2
        simp only at hm2
        split at hm2
        ·cases hm2
        rename_i e7 s7 he7
        have hav := adv_le (L := L) (isKey_lt k4)
        have hlt := (isKey_lt k4).2
        have c4 := l12Source_d L hL hT (adv v6) hav
        have o6 := Ok.sourceM (L := L) (adv v6)
        have o6a : v6.a + 1 ≤ (sourceM L (adv v6)).2.a := o6.1
        have hw := o6.2.1 hav
        generalize (sourceM L (adv v6)).2 = w6 at *
        generalize (sourceM L (adv v6)).1 = sr2 at *
        obtain ⟨tb2, sa2, on2⟩ := sr2
        rw [Source.row_mk] at c4
        simp (config := { maxSteps := 4000000 }) only [tt, seval]
        refine cS (l12Key_d L hL hT v6 4 (by omega) (by omega) hv6) (by decide) ?_ ?_ <;> simp (config := { maxSteps := 4000000 }) only [tt, seval, PB, hi0]
        simp (config := { maxSteps := 4000000 }) only [seval, k4]
        refine cS (l12Step_d L hL hT v6 true (fun _ => isKey_lt k4)) (by decide) ?_ ?_ <;> simp (config := { maxSteps := 4000000 }) only [tt, seval, PB, muT, hi0]
        refine cS (c4) (by decide) ?_ ?_ <;> simp (config := { maxSteps := 4000000 }) only [tt, seval, PB, hi0, hi2]
        refine cS (l12Key_d L hL hT w6 5 (by omega) (by omega) hw) (by decide) ?_ ?_ <;> simp (config := { maxSteps := 4000000 }) only [tt, seval, PB]
        refine cS (l12Step_d L hL hT w6 (isKey L w6 5) (fun h => isKey_lt h)) (by decide) ?_ ?_ <;> simp (config := { maxSteps := 4000000 }) only [tt, seval, PB, hi0]
        have o7 : Ok L w6 (must (isKey L w6 5) w6) := Ok.must fun h => isKey_lt h
        have o7a := o7.1
        have hw7 := o7.2.1 hw
        generalize must (isKey L w6 5) w6 = w7 at *
        have o8 := ok 1 _ _ _ he7
        have o8a := o8.1
        have hs7 := o8.2.1 hw7
        obtain ⟨k7, p7, n7, x7, q7, m7, ks7, ss7⟩ := e7
        have c7 := hf1 _ _ _ he7 hw7
        rw [Expr.row_mk] at c7
        refine cS (c7) (by decide) ?_ ?_ <;> simp (config := { maxSteps := 4000000 }) only [tt, seval, PB, hi2]
        refine ⟨by kernel_rfl, ⟨by simp only [maxLen]; omega, by omega⟩, ?_⟩
        refine ⟨[(9000, .str (PB L s7)), (3, .str [.v (.bool dist), .s 29 m.length, .s 67 ((l ++ [Source.mk tb2 sa2 [Expr.mk k7 p7 n7 x7 q7 m7 ks7 ss7]])).length, .v (.slice none 0 0), .v (.slice none 0 0), .v (.int .i64 (-1))]), (29, .arr 132 m.length (m.flatMap Item.row) none), (67, .arr 134 ((l ++ [Source.mk tb2 sa2 [Expr.mk k7 p7 n7 x7 q7 m7 ks7 ss7]])).length (((l ++ [Source.mk tb2 sa2 [Expr.mk k7 p7 n7 x7 q7 m7 ks7 ss7]])).flatMap Source.row) none), (2, .str [.v (.bool false), .v (.slice none 0 0), .v (.slice none 0 0), .v (.slice none 0 0), .v (.slice none 0 0), .v (.int .i64 0)])], none, by simp only [PB, Expr.row_mk, List.flatMap_nil, List.flatMap_cons, List.append_nil, List.length_nil, List.length_cons, Source.row_mk, List.flatMap_append, List.length_append]; exact SubO.cons rfl (SubO.cons rfl (SubO.cons rfl (SubO.cons rfl (SubO.cons rfl (SubO.nil _))))), PoSub.none _, ⟨l ++ [Source.mk tb2 sa2 [Expr.mk k7 p7 n7 x7 q7 m7 ks7 ss7]], s7, n2, hm2, hs7, by simp; omega, rfl, rfl⟩, ?_⟩
        show L.length - ((s7.a : Int)).toNat < L.length - ((v6.a : Int)).toNat
        omega
       | false =>
        rw [if_neg (by rw [k4]; simp)] at hm2
        injection hm2 with hm2; injection hm2 with e1 e2; subst e1 e2
        simp (config := { maxSteps := 4000000 }) only [tt, seval]
        split at h
        ·cases h
        rename_i wh s5 hwh
        have hs5 := (OkM.wher ok _ _ _ hwh).2.1 hv6
        have cw := l12Where_step L hL hT hf1 _ _ _ hwh hv6
        refine cS (cw) (by decide) ?_ ?_ <;> simp (config := { maxSteps := 4000000 }) only [tt, seval, PB, hi0, hi2]
        refine cS (l12Maybe_d L hL hT s5 7 (by omega) (by omega) hs5) (by decide) ?_ ?_ <;> simp (config := { maxSteps := 4000000 }) only [tt, seval, PB, hi0]
        split at h
        ·cases h
        rename_i ord s6 hord
        unfold orderM at hord
        cases c7 : isKey L s5 7 with
        | false =>
         rw [if_neg (by rw [c7]; simp)] at hord
         injection hord with hord; injection hord with e1 e2; subst e1 e2
         simp (config := { maxSteps := 4000000 }) only [tt, seval, tkF]
         refine cS (l12Maybe_d L hL hT s5 11 (by omega) (by omega) hs5) (by decide) ?_ ?_ <;> simp (config := { maxSteps := 4000000 }) only [tt, seval, PB, hi0, hi1, hi2]
         cases c11 : isKey L s5 11 with
         | true =>
          have hlim : limitM L s5 = (numV (mText L 3 (adv s5)).1, (mText L 3 (adv s5)).2) := by rw [limitM, if_pos c11]; rfl
          rw [hlim] at h
          injection h with h; injection h with h1 h2; subst h1 h2
          have hsz := mt_small hL hT (adv s5) 3
          simp (config := { maxSteps := 4000000 }) only [tt, seval, tkT]
          refine cS (l12Text_d L hL hT (adv s5) 3 (by omega) (adv_le (isKey_lt c11))) (by decide) ?_ ?_ <;> simp (config := { maxSteps := 4000000 }) only [tt, seval, PB]
          generalize (mText L 3 (adv s5)).1 = xn at *
          generalize (mText L 3 (adv s5)).2 = sn at *
          refine cZ (Number_d xn hsz) (by decide) ?_ ?_ <;> simp (config := { maxSteps := 4000000 }) only [tt, seval, numS, hi1, hi2]
          refine ⟨.ag (csOf (Query.mk dist m l wh ([] : List SortKey) (numV xn)).row), [PB L (sn)], ⟨rfl, rfl⟩, endOk ?_⟩
          simp (config := { maxSteps := 4000000 }) only [tt, seval, PB, Query.row_mk, PB]
         | false =>
          have hlim : limitM L s5 = (-1, s5) := by rw [limitM, if_neg (by rw [c11]; simp)]
          rw [hlim] at h
          injection h with h; injection h with h1 h2; subst h1 h2
          simp (config := { maxSteps := 4000000 }) only [tt, seval, tkF]
          refine ⟨.ag (csOf (Query.mk dist m l wh ([] : List SortKey) (-1)).row), [PB L (s5)], ⟨rfl, rfl⟩, endOk ?_⟩
          simp (config := { maxSteps := 4000000 }) only [tt, seval, PB, Query.row_mk, PB]
        | true =>
         rw [if_pos c7] at hord
         simp only at hord
         split at hord
         ·cases hord
         rename_i z1 y1 hz1
         simp (config := { maxSteps := 4000000 }) only [tt, seval, tkT]
         have hav5 := adv_le (L := L) (isKey_lt c7)
         have hlt5 := (isKey_lt c7).2
         refine cS (l12Key_d L hL hT (adv s5) 8 (by omega) (by omega) hav5) (by decide) ?_ ?_ <;> simp (config := { maxSteps := 4000000 }) only [tt, seval, PB]
         refine cS (l12Step_d L hL hT (adv s5) (isKey L (adv s5) 8) (fun h => isKey_lt h)) (by decide) ?_ ?_ <;> simp (config := { maxSteps := 4000000 }) only [tt, seval, PB]
         have o9 : Ok L (adv s5) (must (isKey L (adv s5) 8) (adv s5)) := Ok.must fun h => isKey_lt h
         have hu9 := o9.2.1 hav5
         generalize must (isKey L (adv s5) 8) (adv s5) = u9 at *
         have c9 := l12Sort_step L hL hT ok hf1 _ _ _ hz1 hu9
         have hy1 := (OkM.sort ok _ _ _ hz1).2.1 hu9
         obtain ⟨⟨k9, p9, n9, x9, q9, m9, ks9, ss9⟩, de9⟩ := z1
         rw [SortKey.row_mk, Expr.row_mk] at c9
         apply dDrawn_j3 0 2 3
         case h1 =>
          refine dDrawn.intro [81] (.take 0 (.take 2 (.br 1 (.br 3 (.br 4 (.br 5 (.take 6 (.br 7 .done .nobr)) .nobr) .nobr) .nobr) (.br 3 (.take 1 (.br 4 (.br 5 (.take 6 (.br 7 .done .nobr)) .nobr) .nobr)) .nobr)))) (by kernel_rfl) ?_
          simp (config := { maxSteps := 4000000 }) only [tt, seval]
          all_goals try simp (config := { maxSteps := 4000000 }) only [tt, seval, hi0, hi2]
          all_goals repeat' first | refine brC ?_ ?_ | refine brC2 ?_ ?_
          all_goals
           refine cS (c9) (by decide) ?_ ?_
           ·simp (config := { maxSteps := 4000000 }) only [tt, seval, PB]
            decide
           simp (config := { maxSteps := 4000000 }) only [tt, seval, PB, hi0, hi1, hi2]
          all_goals repeat' first | refine brA ?_ ?_ | refine brA2 ?_ ?_ | refine brA3 ?_ ?_
          all_goals
           refine ⟨by kernel_rfl, ⟨by simp only [maxLen]; omega, by omega⟩, ?_⟩
          all_goals exact ⟨rfl, rfl, rfl, rfl, rfl⟩
         case h2 =>
          intro f' hl0 hl1 hl2
          simp (config := { maxSteps := 4000000 }) only [tt, seval]
          refine dLoop.gh [.ren 83 94] ⟨by decide, by decide, ?_⟩
          refine dLoop0.intro (fun f' Lo p => ∃ (l9 : List SortKey) (v9 : PS) (n9' : Nat), sepM L (sortM L f) n9' l9 v9 = some (ord, s6) ∧ v9.a ≤ L.length ∧ l9.length ≤ v9.a + 1 ∧ Lo = [(9000, .str (PB L v9)), (3, .str [.v (.bool dist), .s 29 m.length, .s 67 l.length, .sl wh.length (wh.flatMap Expr.row) none, .s 94 (l9).length, .v (.int .i64 (-1))]), (29, .arr 132 m.length (m.flatMap Item.row) none), (67, .arr 134 l.length (l.flatMap Source.row) none), (94, .arr 136 (l9).length ((l9).flatMap SortKey.row) none), (2, .str [.v (.bool false), .v (.slice none 0 0), .v (.slice none 0 0), .v (.slice none 0 0), .v (.slice none 0 0), .v (.int .i64 0)])] ∧ p = none) (fun _ Lo _ => L.length - atS Lo) [(9000, .str (PB L y1)), (3, .str [.v (.bool dist), .s 29 m.length, .s 67 l.length, .sl wh.length (wh.flatMap Expr.row) none, .s 94 ([(SortKey.mk (Expr.mk k9 p9 n9 x9 q9 m9 ks9 ss9) de9)]).length, .v (.int .i64 (-1))]), (29, .arr 132 m.length (m.flatMap Item.row) none), (67, .arr 134 l.length (l.flatMap Source.row) none), (94, .arr 136 ([(SortKey.mk (Expr.mk k9 p9 n9 x9 q9 m9 ks9 ss9) de9)]).length (([(SortKey.mk (Expr.mk k9 p9 n9 x9 q9 m9 ks9 ss9) de9)]).flatMap SortKey.row) none), (2, .str [.v (.bool false), .v (.slice none 0 0), .v (.slice none 0 0), .v (.slice none 0 0), .v (.slice none 0 0), .v (.int .i64 0)])] none ⟨by simp only [PB, Expr.row_mk, List.flatMap_nil, List.flatMap_cons, List.append_nil, List.length_nil, List.length_cons, SortKey.row_mk, lc]; exact SubO.cons rfl (SubO.cons rfl (SubO.cons rfl (SubO.cons rfl (SubO.cons rfl (SubO.cons rfl (SubO.nil _)))))), PoSub.none _, ?_⟩ ?_
          ·simp (config := { maxSteps := 4000000 }) only [tt, seval]
           exact ⟨[(SortKey.mk (Expr.mk k9 p9 n9 x9 q9 m9 ks9 ss9) de9)], y1, L.length + 1, hord, hy1, by simp, rfl⟩
          ·rintro g3 Lo p ⟨l9, v9, n9', hm9, hv9, hml9, rfl, rfl⟩
           simp (config := { maxSteps := 4000000 }) only [tt, seval, hl0]
           refine cS (l12SignC_d L hL hT v9 44 hv9) (by decide) ?_ ?_ <;> simp (config := { maxSteps := 4000000 }) only [tt, seval, PB, hl0]
           cases n9' with
           | zero => cases hm9
           | succ n9' =>
           rw [sepM] at hm9
           cases c44 : isSg L v9 44 with
           | true =>
            rw [if_pos c44] at hm9
            split at hm9
            ·cases hm9
            rename_i za wa hza
            obtain ⟨hb9, hlt9⟩ := isSg_lt c44
            have hav9 := adv_le (L := L) (isSg_lt c44)
            have oa := OkM.sort ok _ _ _ hza
            have oaa : v9.a + 1 ≤ wa.a := oa.1
            have hwa := oa.2.1 hav9
            have ca := l12Sort_step L hL hT ok hf1 _ _ _ hza hav9
            obtain ⟨⟨ka, pa, na, xa, qa, ma, ksa, ssa⟩, dea⟩ := za
            rw [SortKey.row_mk, Expr.row_mk] at ca
            simp (config := { maxSteps := 4000000 }) only [tt, seval]
            refine cS (l12Step_d L hL hT v9 true (fun _ => isSg_lt c44)) (by decide) ?_ ?_ <;> simp (config := { maxSteps := 4000000 }) only [tt, seval, PB, muT]
            apply dDrawn_j1 3
            case h1 =>
             refine dDrawn.intro [92] (.take 0 (.take 2 (.br 1 (.br 3 (.br 4 (.br 5 (.take 6 (.br 7 .done .nobr)) .nobr) .nobr) .nobr) (.br 3 (.take 1 (.br 4 (.br 5 (.take 6 (.br 7 .done .nobr)) .nobr) .nobr)) .nobr)))) (by kernel_rfl) ?_
             simp (config := { maxSteps := 4000000 }) only [tt, seval]
             all_goals try simp (config := { maxSteps := 4000000 }) only [tt, seval, hl0, hl2]
             all_goals repeat' first | refine brC ?_ ?_ | refine brC2 ?_ ?_
             all_goals
              refine cS (ca) (by decide) ?_ ?_
              ·simp (config := { maxSteps := 4000000 }) only [tt, seval, PB]
               decide
              simp (config := { maxSteps := 4000000 }) only [tt, seval, PB, hl2]
             all_goals repeat' first | refine brA ?_ ?_ | refine brA2 ?_ ?_ | refine brA3 ?_ ?_
             all_goals
              refine ⟨by kernel_rfl, ⟨by simp only [maxLen]; omega, by omega⟩, ?_⟩
             all_goals exact ⟨rfl, rfl, rfl⟩
            case h2 =>
             intro f' hn0
             refine ⟨[(9000, .str (PB L wa)), (3, .str [.v (.bool dist), .s 29 m.length, .s 67 l.length, .sl wh.length (wh.flatMap Expr.row) none, .s 94 ((l9 ++ [(SortKey.mk (Expr.mk ka pa na xa qa ma ksa ssa) dea)])).length, .v (.int .i64 (-1))]), (29, .arr 132 m.length (m.flatMap Item.row) none), (67, .arr 134 l.length (l.flatMap Source.row) none), (94, .arr 136 ((l9 ++ [(SortKey.mk (Expr.mk ka pa na xa qa ma ksa ssa) dea)])).length (((l9 ++ [(SortKey.mk (Expr.mk ka pa na xa qa ma ksa ssa) dea)])).flatMap SortKey.row) none), (2, .str [.v (.bool false), .v (.slice none 0 0), .v (.slice none 0 0), .v (.slice none 0 0), .v (.slice none 0 0), .v (.int .i64 0)])], none, by simp only [PB, Expr.row_mk, List.flatMap_nil, List.flatMap_cons, List.append_nil, List.length_nil, List.length_cons, SortKey.row_mk, lc, List.flatMap_append, List.length_append]; exact SubO.cons rfl (SubO.cons rfl (SubO.cons rfl (SubO.cons rfl (SubO.cons rfl (SubO.cons rfl (SubO.nil _)))))), PoSub.none _, ⟨l9 ++ [(SortKey.mk (Expr.mk ka pa na xa qa ma ksa ssa) dea)], wa, n9', hm9, hwa, by simp; omega, rfl, rfl⟩, ?_⟩
             show L.length - ((wa.a : Int)).toNat < L.length - ((v9.a : Int)).toNat
             omega
           | false =>
            rw [if_neg (by rw [c44]; simp)] at hm9
            injection hm9 with hm9; injection hm9 with e1 e2; subst e1 e2
            simp (config := { maxSteps := 4000000 }) only [tt, seval]
            refine cS (l12Maybe_d L hL hT v9 11 (by omega) (by omega) hv9) (by decide) ?_ ?_ <;> simp (config := { maxSteps := 4000000 }) only [tt, seval, PB, hl0, hl1, hl2]
            cases c11 : isKey L v9 11 with
            | true =>
             have hlim : limitM L v9 = (numV (mText L 3 (adv v9)).1, (mText L 3 (adv v9)).2) := by rw [limitM, if_pos c11]; rfl
             rw [hlim] at h
             injection h with h; injection h with h1 h2; subst h1 h2
             have hsz := mt_small hL hT (adv v9) 3
             simp (config := { maxSteps := 4000000 }) only [tt, seval, tkT]
             refine cS (l12Text_d L hL hT (adv v9) 3 (by omega) (adv_le (isKey_lt c11))) (by decide) ?_ ?_ <;> simp (config := { maxSteps := 4000000 }) only [tt, seval, PB]
             generalize (mText L 3 (adv v9)).1 = xn at *
             generalize (mText L 3 (adv v9)).2 = sn at *
             refine cZ (Number_d xn hsz) (by decide) ?_ ?_ <;> simp (config := { maxSteps := 4000000 }) only [tt, seval, numS, hl1, hl2]
             refine ⟨.ag (csOf (Query.mk dist m l wh l9 (numV xn)).row), [PB L (sn)], ⟨rfl, rfl⟩, endOk ?_⟩
             simp (config := { maxSteps := 4000000 }) only [tt, seval, PB, Query.row_mk, PB]
            | false =>
             have hlim : limitM L v9 = (-1, v9) := by rw [limitM, if_neg (by rw [c11]; simp)]
             rw [hlim] at h
             injection h with h; injection h with h1 h2; subst h1 h2
             simp (config := { maxSteps := 4000000 }) only [tt, seval, tkF]
             refine ⟨.ag (csOf (Query.mk dist m l wh l9 (-1)).row), [PB L (v9)], ⟨rfl, rfl⟩, endOk ?_⟩
             simp (config := { maxSteps := 4000000 }) only [tt, seval, PB, Query.row_mk, PB]
theorem specP (L : List Tok) (hL : L.length ≤ 1048576) (hT : ∀ t ∈ L, t.text.size ≤ 1048576) : ∀ k, (∀ lv : Nat, 1 ≤ lv → lv ≤ 8 → SpE L 129 [vi lv] ((pP L k).1 lv)) ∧ SpE L 195 [] ((pP L k).1 9) ∧ SpQ L 231 (pP L k).2
 | 0 => ⟨fun _ _ _ _ _ _ h => (by cases h), fun _ _ _ h => (by cases h), fun _ _ _ h => (by cases h)⟩
 | k + 1 => by
  obtain ⟨h1, h2, h3⟩ := specP L hL hT k
  obtain ⟨ok, okq⟩ := pP_ok (L := L) k
  refine ⟨fun lv a b => ?_, ?_, ?_⟩
  ·show SpE L _ _ (stepE L (pP L k).1 (pP L k).2 lv)
   by_cases e3 : lv = 3
   ·subst e3; exact l12Expr3 L hL hT ok okq h1 h2 h3
   by_cases e4 : lv = 4
   ·subst e4; exact l12Expr4 L hL hT ok okq h1 h2 h3
   by_cases e8 : lv = 8
   ·subst e8; exact l12Expr8 L hL hT ok okq h1 h2 h3
   ·exact l12ExprB L hL hT ok okq h1 h2 h3 lv (by simp only [List.mem_cons, List.not_mem_nil, or_false]; omega)
  ·have e : (pP L (k + 1)).1 9 = primM L (pP L k).1 (pP L k).2 := rfl
   rw [e]
   exact l12Prim_step L hL hT (ok 1) okq (h1 1 (by omega) (by omega)) h3
  ·exact l12Query_step L hL hT ok (h1 1 (by omega) (by omega))
theorem l12Expr_d (L : List Tok) (hL : L.length ≤ 1048576) (hT : ∀ t ∈ L, t.text.size ≤ 1048576) (lv : Nat) (h1 : 1 ≤ lv) (h2 : lv ≤ 8) : SpE L 129 [vi lv] (pExpr L lv) := (specP L hL hT (pD L)).1 lv h1 h2
theorem TakeExpr_d (L : List Tok) (hL : L.length ≤ 1048576) (hT : ∀ t ∈ L, t.text.size ≤ 1048576) : Cl Tryz.prog 62 [.c (.sl L.length (L.flatMap Tok.row) none)] [] fun r _ => r = .tu [(csOf (takeE L).1.row, false), ([.v (.int .i64 (takeE L).2)], true)] := by
 obtain ⟨x, s1, hx⟩ := pExpr_df (L := L) 1 (by omega) (by omega) s0
 have ha := (pExpr_ok (L := L) 1 _ _ _ hx).2.1 (Nat.zero_le _)
 have c1 := l12Expr_d L hL hT 1 (by omega) (by omega) _ _ _ hx (Nat.zero_le _)
 have ht : takeE L = takeM L zExpr (some (x, s1)) := by unfold takeE; rw [hx]
 rw [ht]
 obtain ⟨k1, p1, n1, w1, q1, m1, ks1, ss1⟩ := x
 rw [Expr.row_mk] at c1
 refine cl_of_d follows_mixed false Tryz.func62 rfl (by kernel_rfl) ?_
 simp only [Tryz.f62, tt, seval]
 refine cS (c1) (by decide) ?_ ?_ <;> simp only [tt, seval, PB, s0]
 refine cS (l12End_d L hL hT s1 ha) (by decide) ?_ ?_ <;> simp only [tt, seval, PB]
 refine And.intro (fun hb => ?_) (fun hb => ?_)
 ·have e : takeM L zExpr (some (Expr.mk k1 p1 n1 w1 q1 m1 ks1 ss1, s1)) = (zExpr, endM L s1) := if_pos hb
  rw [e]
  refine ⟨_, [], rfl, endOk ?_⟩
  simp only [tt, seval, bae, zExpr, zVal, z0, Expr.row_mk]
 ·have e : takeM L zExpr (some (Expr.mk k1 p1 n1 w1 q1 m1 ks1 ss1, s1)) = (Expr.mk k1 p1 n1 w1 q1 m1 ks1 ss1, -1) := if_neg (by omega)
  rw [e]
  refine ⟨_, [], rfl, endOk ?_⟩
  simp only [tt, seval, Expr.row_mk]
end Go.Proofs.YtoegnikpokgbfaaGreatDoor
