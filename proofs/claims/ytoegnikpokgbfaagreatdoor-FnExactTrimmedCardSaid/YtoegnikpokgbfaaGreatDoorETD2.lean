/-
  The program's parser, second half.
  Conditions: none.
-/
import Derived.Test.YtoegnikpokgbfaaGreatDoorETD1
set_option linter.unusedVariables false
set_option linter.unusedSimpArgs false
set_option linter.unusedSectionVars false
set_option maxRecDepth 8000
namespace Go.Proofs.YtoegnikpokgbfaaGreatDoor
open Go Go.Dv Go.Cv
open Go.Vc (D shrI xorI andI)
set_option maxHeartbeats 8000000 in
theorem pcmp_step (L : List Tok) (hL : L.length ≤ 1048576) (hT : ∀ t ∈ L, t.text.size ≤ 1048576) {f : Nat → PM Expr} {q : PM Query} (ok : ∀ lv, OkM (L := L) (f lv)) (okq : OkM (L := L) q) (hor : TpE L 57 (f 1)) (hc : TpE L 240 (f 5)) (hq : TpQ L 256 q) : TpE L 224 (stepE L f q 4) := by
 intro s x s' h ha
 have h : cmpM L f q s = some (x, s') := h
 unfold cmpM at h
 split at h
 ·cases h
 rename_i e s1 he
 have ha1 := (ok 5 _ _ _ he).2.1 ha
 obtain ⟨k1, p1, n1, v1, q1, m1, ks1, ss1⟩ := e
 have c1 := hc _ _ _ he ha
 rw [Expr.row_mk] at c1
 refine cl_of_d follows_mixed true Tryz.func224 rfl (by kernel_rfl) ?_
 simp only [Tryz.f224, tt, seval]
 refine CallQ.intro (c1) ?_ ?_ ?_
 ·decide
 ·simp only [tt, seval, PB]
 rintro r os ⟨⟨Fk, Fs, rfl⟩, rfl⟩ hos
 simp only [tt, seval, PB, told]
 have co := ptakeOp_d L hL hT s1 (opsL 4) (by decide) (by decide) ha1
 have hop0 : opIn L s1 (opsL 4) = opAt L s1 4 := rfl
 rw [hop0] at co
 simp only [ops4] at co
 refine callF [11] ?_
 simp only [tt, seval]
 refine fun G => ?_
 refine Call1.intro (co) ?_ ?_ ?_
 ·decide
 ·simp only [tt, seval, PB, nrow]
 rintro r os ⟨rfl, rfl⟩ hos
 simp only [tt, seval, PB, nrow]
 by_cases hop : opAt L s1 4 = 0
 ·rw [if_pos hop] at h
  have e0 : decide (¬ ((opAt L s1 4 : Nat) : Int) = 0) = false := decide_eq_false (by omega)
  have e0' : (((opAt L s1 4 : Nat) : Int) = 0) = True := eq_true (by omega)
  have e1 : decide (¬ opAt L s1 4 = 0) = false := decide_eq_false (by omega)
  simp only [tt, seval, e0', e1, tkF]
  unfold cmpT at h
  simp only at h
  refine cS (ptakeKey_d L hL hT s1 16 ⟨#[73, 83]⟩ (by kernel_rfl) ha1) (by decide) ?_ ?_ <;> simp only [tt, seval, PB]
  cases c16 : isKey L s1 16 with
  | true =>
   rw [if_pos c16] at h
   have hav := adv_le (L := L) (isKey_lt c16)
   simp only [tt, seval, tkT]
   refine cS (ptakeKey_d L hL hT (adv s1) 15 ⟨#[78, 79, 84]⟩ (by kernel_rfl) hav) (by decide) ?_ ?_ <;> simp only [tt, seval, PB]
   have o2 : Ok L (adv s1) (tkIf (isKey L (adv s1) 15) (adv s1)) := Ok.tkIf fun h => isKey_lt h
   have ha2 := o2.2.1 hav
   generalize tkIf (isKey L (adv s1) 15) (adv s1) = s2 at *
   generalize isKey L (adv s1) 15 = nn at *
   refine cS (pmustKey_d L hL hT s2 20 ⟨#[78, 85, 76, 76]⟩ (by kernel_rfl) ha2) (by decide) ?_ ?_ <;> simp only [tt, seval, PB]
   injection h with h; injection h with h1 h2; subst h1 h2
   refine fun G0 => ?_
   refine ⟨.ag (told (mKids 5 nn [(Expr.mk k1 p1 n1 v1 q1 m1 ks1 ss1)] []).row [G0 :: (Fk ++ Fs), []]), [PB L (must (isKey L s2 20) s2)], ⟨⟨_, _, rfl⟩, rfl⟩, endOk ?_⟩
   simp only [tt, seval, bae, PB, mKids, zVal, z0, Expr.row_mk, told]
   first | done | ((try refine ⟨by omega, ?_⟩); exact pool_ok fun x => by (try simp only [List.flatten_append, List.count_append]); omega)
  | false =>
  rw [if_neg (by rw [c16]; simp)] at h
  simp only [tt, seval, tkF]
  refine cS (ptakeKey_d L hL hT s1 15 ⟨#[78, 79, 84]⟩ (by kernel_rfl) ha1) (by decide) ?_ ?_ <;> simp only [tt, seval, PB]
  have o2 : Ok L s1 (tkIf (isKey L s1 15) s1) := Ok.tkIf fun h => isKey_lt h
  have ha2 := o2.2.1 ha1
  generalize tkIf (isKey L s1 15) s1 = s2 at *
  generalize isKey L s1 15 = nn at *
  refine cS (ptakeKey_d L hL hT s2 18 ⟨#[66, 69, 84, 87, 69, 69, 78]⟩ (by kernel_rfl) ha2) (by decide) ?_ ?_ <;> simp only [tt, seval, PB]
  cases c18 : isKey L s2 18 with
  | true =>
   rw [if_pos c18] at h
   split at h
   ·cases h
   rename_i lo s3 hlo
   split at h
   ·cases h
   rename_i hi s4 hhi
   injection h with h; injection h with h1 h2; subst h1 h2
   have hav := adv_le (L := L) (isKey_lt c18)
   have ha3 := (ok 5 _ _ _ hlo).2.1 hav
   obtain ⟨k2, p2, n2, v2, q2, m2, ks2, ss2⟩ := lo
   have c2 := hc _ _ _ hlo hav
   rw [Expr.row_mk] at c2
   simp only [tt, seval, tkT]
   refine CallQ.intro (c2) ?_ ?_ ?_
   ·decide
   ·simp only [tt, seval, PB]
   rintro r os ⟨⟨Gk, Gs, rfl⟩, rfl⟩ hos
   simp only [tt, seval, PB, told]
   refine cS (pmustKey_d L hL hT s3 13 ⟨#[65, 78, 68]⟩ (by kernel_rfl) ha3) (by decide) ?_ ?_ <;> simp only [tt, seval, PB]
   have o3 : Ok L s3 (must (isKey L s3 13) s3) := Ok.must fun h => isKey_lt h
   have ha4 := o3.2.1 ha3
   generalize must (isKey L s3 13) s3 = s5 at *
   obtain ⟨k3, p3, n3, v3, q3, m3, ks3, ss3⟩ := hi
   have c3 := hc _ _ _ hhi ha4
   rw [Expr.row_mk] at c3
   refine dDrawn.intro [43] (.take 0 (.take 3 (.br 1 (.br 2 (.br 4 (.br 5 (.take 6 (.br 7 .done .nobr)) .nobr) .nobr) (.br 4 (.take 2 (.br 5 (.take 6 (.br 7 .done .nobr)) .nobr)) .nobr)) (.br 2 (.br 1 (.br 4 (.br 5 (.take 6 (.br 7 .done .nobr)) .nobr) .nobr) (.br 4 (.take 1 (.br 5 (.take 6 (.br 7 .done .nobr)) .nobr)) .nobr)) (.br 4 (.take 1 (.take 2 (.br 5 (.take 6 (.br 7 .done .nobr)) .nobr))) .nobr))))) (by kernel_rfl) ?_
   simp only [tt, seval]
   all_goals repeat' first | refine brC ?_ ?_ | refine brC2 ?_ ?_
   all_goals
    refine CallQ.intro (c3) ?_ ?_ ?_
    ·decide
    ·simp only [tt, seval, PB]
     decide
    rintro r os ⟨⟨Hk, Hs, rfl⟩, rfl⟩ hos
    simp only [tt, seval, PB, told]
   all_goals
    refine fun G0 => ?_
    refine ⟨.ag (told (mKids 6 nn [(Expr.mk k1 p1 n1 v1 q1 m1 ks1 ss1), (Expr.mk k2 p2 n2 v2 q2 m2 ks2 ss2), (Expr.mk k3 p3 n3 v3 q3 m3 ks3 ss3)] []).row [G0 :: (Fk ++ (Fs ++ (Gk ++ (Gs ++ (Hk ++ Hs))))), []]), [PB L (s4)], ⟨⟨_, _, rfl⟩, rfl⟩, endOk ?_⟩
    simp only [tt, seval, bae, PB, mKids, zVal, z0, Expr.row_mk, told]
    first | done | ((try refine ⟨by omega, ?_⟩); exact pool_ok fun x => by (try simp only [List.flatten_append, List.count_append]); omega)
  | false =>
  rw [if_neg (by rw [c18]; simp)] at h
  simp only [tt, seval, tkF]
  refine cS (ptakeKey_d L hL hT s2 17 ⟨#[73, 78]⟩ (by kernel_rfl) ha2) (by decide) ?_ ?_ <;> simp only [tt, seval, PB]
  cases c17 : isKey L s2 17 with
  | true =>
   rw [if_pos c17] at h
   have hav := adv_le (L := L) (isKey_lt c17)
   have ci := pin_step L hL hT ok okq hor hq (Expr.mk k1 p1 n1 v1 q1 m1 ks1 ss1) nn Fk Fs (adv s2) x s' h hav
   obtain ⟨k2, p2, n2, v2, q2, m2, ks2, ss2⟩ := x
   simp only [Expr.row_mk, told] at ci
   simp only [tt, seval, tkT]
   refine callT ([G]) (ci) ?_ ?_ ?_ ?_
   ·decide
   ·simp only [tt, seval, PB]
   ·exact fun x => by simp only [List.flatten_append, List.flatten_cons, List.flatten_nil, List.count_append, List.append_nil]; omega
   rintro r os ⟨⟨Hk, Hs, rfl⟩, rfl⟩ hos
   simp only [tt, seval, PB]
   refine ⟨.ag (told ((Expr.mk k2 p2 n2 v2 q2 m2 ks2 ss2)).row [Hk, Hs]), [PB L (s')], ⟨⟨Hk, Hs, by first | rfl | simp only [rW, told, Val.row, lc]⟩, rfl⟩, endOk ?_⟩
   simp only [tt, seval, PB, Expr.row_mk, told]
   first | done | ((try refine ⟨by omega, ?_⟩); exact pool_ok fun x => by (try simp only [List.flatten_append, List.count_append]); omega)
  | false =>
   rw [if_neg (by rw [c17]; simp)] at h
   injection h with h; injection h with h1 h2; subst h1 h2
   simp only [tt, seval, tkF]
   obtain ⟨a2, b2⟩ := s2
   cases b2 with
   | true =>
    simp only [tt, seval]
    refine ⟨.ag (told ((Expr.mk k1 p1 n1 v1 q1 m1 ks1 ss1)).row [Fk, Fs]), [PB L (⟨a2, true⟩)], ⟨⟨Fk, Fs, by first | rfl | simp only [rW, told, Val.row, lc]⟩, rfl⟩, endOk ?_⟩
    simp only [tt, seval, PB, Expr.row_mk, told]
    first | done | ((try refine ⟨by omega, ?_⟩); exact pool_ok fun x => by (try simp only [List.flatten_append, List.count_append]); omega)
   | false =>
    simp only [tt, seval]
    refine ⟨.ag (told ((Expr.mk k1 p1 n1 v1 q1 m1 ks1 ss1)).row [Fk, Fs]), [PB L (⟨a2, false || nn⟩)], ⟨⟨Fk, Fs, by first | rfl | simp only [rW, told, Val.row, lc]⟩, rfl⟩, endOk ?_⟩
    simp only [tt, seval, PB, Expr.row_mk, told]
    first | done | ((try refine ⟨by omega, ?_⟩); exact pool_ok fun x => by (try simp only [List.flatten_append, List.count_append]); omega)
 ·rw [if_neg hop] at h
  split at h
  ·cases h
  rename_i z u hz
  injection h with h; injection h with h1 h2; subst h1 h2
  have hav := adv_le (L := L) (opAt_lt hop)
  obtain ⟨k2, p2, n2, v2, q2, m2, ks2, ss2⟩ := z
  have c2 := hc _ _ _ hz hav
  rw [Expr.row_mk] at c2
  have cb := fun Gk Gs => pbin_d (opAt L s1 4) (Expr.mk k1 p1 n1 v1 q1 m1 ks1 ss1) (Expr.mk k2 p2 n2 v2 q2 m2 ks2 ss2) Fk Fs Gk Gs
  simp only [Expr.row_mk, told] at cb
  have e0 : decide (¬ ((opAt L s1 4 : Nat) : Int) = 0) = true := decide_eq_true (by omega)
  have e0' : (((opAt L s1 4 : Nat) : Int) = 0) = False := eq_false (by omega)
  have e1 : decide (¬ opAt L s1 4 = 0) = true := decide_eq_true (by omega)
  simp only [tt, seval, e0', e1, tkT]
  refine dDrawn.intro [18] (.take 0 (.take 2 (.br 1 (.br 3 (.br 4 (.br 5 .done .nobr) .nobr) .nobr) (.br 3 (.take 1 (.br 4 (.br 5 .done .nobr) .nobr)) .nobr)))) (by kernel_rfl) ?_
  simp only [tt, seval]
  all_goals repeat' first | refine brC ?_ ?_ | refine brC2 ?_ ?_
  all_goals
   refine CallQ.intro (c2) ?_ ?_ ?_
   ·decide
   ·simp only [tt, seval, PB]
    decide
   rintro r os ⟨⟨Gk, Gs, rfl⟩, rfl⟩ hos
   simp only [tt, seval, PB, told]
  all_goals repeat' first | refine brC ?_ ?_ | refine brC2 ?_ ?_
  all_goals
   refine callT ([G]) (cb Gk Gs) ?_ ?_ ?_ ?_
   ·decide
   ·simp only [tt, seval]
   ·exact fun x => by simp only [List.flatten_append, List.flatten_cons, List.flatten_nil, List.count_append, List.append_nil]; omega
   rintro r os ⟨rfl, Hk, Hs, rfl⟩ hos
   simp only [tt, seval, mBin, Expr.row_mk, told]
  all_goals
   refine ⟨.ag (told (mBin (opAt L s1 4) (Expr.mk k1 p1 n1 v1 q1 m1 ks1 ss1) (Expr.mk k2 p2 n2 v2 q2 m2 ks2 ss2)).row [Hk, Hs]), [PB L (u)], ⟨⟨Hk, Hs, by first | rfl | simp only [mBin, zVal, z0, Expr.row_mk, List.flatMap_nil, List.flatMap_cons, List.append_nil, List.length_nil, List.length_cons, told, lc]⟩, rfl⟩, endOk ?_⟩
   simp only [tt, seval, PB, mBin, zVal, z0, Expr.row_mk, told]
   first | done | ((try refine ⟨by omega, ?_⟩); exact pool_ok fun x => by (try simp only [List.flatten_append, List.count_append]); omega)
def TpI (L : List Tok) (m : PM Item) : Prop := ∀ s e s', m s = some (e, s') → s.a ≤ L.length → Cl Tryz.prog 274 [.c (.p 9000 0)] [PB L s] fun r os => (∃ F0 F1, r = .ag (told (e).row [F0, F1])) ∧ os = [PB L s']
def TpK (L : List Tok) (m : PM SortKey) : Prop := ∀ s e s', m s = some (e, s') → s.a ≤ L.length → Cl Tryz.prog 277 [.c (.p 9000 0)] [PB L s] fun r os => (∃ F0 F1, r = .ag (told (e).row [F0, F1])) ∧ os = [PB L s']
set_option maxHeartbeats 4000000 in
theorem pitem_step (L : List Tok) (hL : L.length ≤ 1048576) (hT : ∀ t ∈ L, t.text.size ≤ 1048576) {f : Nat → PM Expr} (ok : ∀ lv, OkM (L := L) (f lv)) (hf1 : TpE L 57 (f 1)) : TpI L (itemM L f) := by
 intro s x s' h ha
 unfold itemM at h
 refine cl_of_d follows_mixed true Tryz.func274 rfl (by kernel_rfl) ?_
 simp only [Tryz.f274, tt, seval]
 refine cS (ptakeSign_d L hL hT s 42 ha) (by decide) ?_ ?_ <;> simp only [tt, seval, PB]
 cases c42 : isSg L s 42 with
 | true =>
  rw [if_pos c42] at h
  injection h with h; injection h with h1 h2; subst h1 h2
  simp only [tt, seval, tkT]
  refine ⟨.ag (told (Item.mk true z0 zExpr z0).row [[], []]), [PB L (adv s)], ⟨⟨[], [], by first | rfl | simp only [Item.row_mk, Source.row_mk, SortKey.row_mk, rW, told, Val.row, lc]⟩, rfl⟩, endOk ?_⟩
  simp only [tt, seval, Item.row_mk, bae, PB, zExpr, zVal, z0, Expr.row_mk, told]
  first | done | ((try refine ⟨by omega, ?_⟩); exact pool_ok fun x => by (try simp only [List.count_nil]); omega)
 | false =>
 rw [if_neg (by rw [c42]; simp)] at h
 simp only [tt, seval, tkF]
 refine cS (pisKind_d L hL hT s 2 ha) (by decide) ?_ ?_ <;> simp only [tt, seval, PB]
 cases hK : isK L s 2 with
 | false =>
  simp only [tt, seval]
  have hsf : starN L s = false := by unfold starN; rw [hK]; rfl
  rw [if_neg (by rw [hsf]; simp)] at h
  split at h
  ·cases h
  rename_i e s1 he
  injection h with h; injection h with h1 h2; subst h1 h2
  have ha1 := (ok 1 _ _ _ he).2.1 ha
  obtain ⟨k1, p1, n1, v1, q1, m1, ks1, ss1⟩ := e
  have c1 := hf1 _ _ _ he ha
  rw [Expr.row_mk] at c1
  refine CallQ.intro (c1) ?_ ?_ ?_
  ·decide
  ·simp only [tt, seval, PB]
  rintro r os ⟨⟨Fk, Fs, rfl⟩, rfl⟩ hos
  simp only [tt, seval, PB, told]
  refine dDrawn.intro [35] (.take 1 (.br 0 (.br 2 (.take 3 (.br 4 .done .nobr)) .nobr) (.br 2 (.take 0 (.take 3 (.br 4 .done .nobr))) .nobr))) (by kernel_rfl) ?_
  simp only [tt, seval]
  all_goals repeat' first | refine brC ?_ ?_ | refine brC2 ?_ ?_
  all_goals
   refine cS (pas_d L hL hT s1 ha1) (by decide) ?_ ?_
   ·simp only [tt, seval, PB]
    decide
   simp only [tt, seval, PB]
  all_goals
   refine ⟨.ag (told (Item.mk false z0 (Expr.mk k1 p1 n1 v1 q1 m1 ks1 ss1) (asM L s1).1).row [Fk, Fs]), [PB L ((asM L s1).2)], ⟨⟨Fk, Fs, by first | rfl | simp only [Item.row_mk, Source.row_mk, SortKey.row_mk, rW, told, Val.row, lc]⟩, rfl⟩, endOk ?_⟩
   simp only [tt, seval, Item.row_mk, bae, PB, z0, Expr.row_mk, told]
   first | done | ((try refine ⟨by omega, ?_⟩); exact pool_ok fun x => by (try simp only [List.flatten_append, List.count_append]); omega)
 | true =>
  simp only [tt, seval]
  refine cS (pis_d L hL hT s 1 5 ⟨#[46]⟩ (by omega) ha) (by decide) ?_ ?_ <;> simp only [tt, seval, PB]
  cases h1 : isT L s 1 5 ⟨#[46]⟩ with
  | false =>
   have h1' : isT L s 1 (5 : Nat) ⟨#[46]⟩ = false := h1
   simp only [tt, seval]
   have hsf : starN L s = false := by unfold starN; rw [hK, h1]; rfl
   rw [if_neg (by rw [hsf]; simp)] at h
   split at h
   ·cases h
   rename_i e s1 he
   injection h with h; injection h with h1 h2; subst h1 h2
   have ha1 := (ok 1 _ _ _ he).2.1 ha
   obtain ⟨k1, p1, n1, v1, q1, m1, ks1, ss1⟩ := e
   have c1 := hf1 _ _ _ he ha
   rw [Expr.row_mk] at c1
   refine CallQ.intro (c1) ?_ ?_ ?_
   ·decide
   ·simp only [tt, seval, PB]
   rintro r os ⟨⟨Fk, Fs, rfl⟩, rfl⟩ hos
   simp only [tt, seval, PB, told]
   refine dDrawn.intro [35] (.take 1 (.br 0 (.br 2 (.take 3 (.br 4 .done .nobr)) .nobr) (.br 2 (.take 0 (.take 3 (.br 4 .done .nobr))) .nobr))) (by kernel_rfl) ?_
   simp only [tt, seval]
   all_goals repeat' first | refine brC ?_ ?_ | refine brC2 ?_ ?_
   all_goals
    refine cS (pas_d L hL hT s1 ha1) (by decide) ?_ ?_
    ·simp only [tt, seval, PB]
     decide
    simp only [tt, seval, PB]
   all_goals
    refine ⟨.ag (told (Item.mk false z0 (Expr.mk k1 p1 n1 v1 q1 m1 ks1 ss1) (asM L s1).1).row [Fk, Fs]), [PB L ((asM L s1).2)], ⟨⟨Fk, Fs, by first | rfl | simp only [Item.row_mk, Source.row_mk, SortKey.row_mk, rW, told, Val.row, lc]⟩, rfl⟩, endOk ?_⟩
    simp only [tt, seval, Item.row_mk, bae, PB, z0, Expr.row_mk, told]
    first | done | ((try refine ⟨by omega, ?_⟩); exact pool_ok fun x => by (try simp only [List.flatten_append, List.count_append]); omega)
  | true =>
   have h1' : isT L s 1 (5 : Nat) ⟨#[46]⟩ = true := h1
   simp only [tt, seval]
   refine cS (pis_d L hL hT s 2 5 ⟨#[42]⟩ (by omega) ha) (by decide) ?_ ?_ <;> simp only [tt, seval, PB]
   cases h2 : isT L s 2 5 ⟨#[42]⟩ with
   | false =>
    have h2' : isT L s 2 (5 : Nat) ⟨#[42]⟩ = false := h2
    simp only [tt, seval]
    have hsf : starN L s = false := by unfold starN; rw [hK, h1, h2]; rfl
    rw [if_neg (by rw [hsf]; simp)] at h
    split at h
    ·cases h
    rename_i e s1 he
    injection h with h; injection h with h1 h2; subst h1 h2
    have ha1 := (ok 1 _ _ _ he).2.1 ha
    obtain ⟨k1, p1, n1, v1, q1, m1, ks1, ss1⟩ := e
    have c1 := hf1 _ _ _ he ha
    rw [Expr.row_mk] at c1
    refine CallQ.intro (c1) ?_ ?_ ?_
    ·decide
    ·simp only [tt, seval, PB]
    rintro r os ⟨⟨Fk, Fs, rfl⟩, rfl⟩ hos
    simp only [tt, seval, PB, told]
    refine dDrawn.intro [35] (.take 1 (.br 0 (.br 2 (.take 3 (.br 4 .done .nobr)) .nobr) (.br 2 (.take 0 (.take 3 (.br 4 .done .nobr))) .nobr))) (by kernel_rfl) ?_
    simp only [tt, seval]
    all_goals repeat' first | refine brC ?_ ?_ | refine brC2 ?_ ?_
    all_goals
     refine cS (pas_d L hL hT s1 ha1) (by decide) ?_ ?_
     ·simp only [tt, seval, PB]
      decide
     simp only [tt, seval, PB]
    all_goals
     refine ⟨.ag (told (Item.mk false z0 (Expr.mk k1 p1 n1 v1 q1 m1 ks1 ss1) (asM L s1).1).row [Fk, Fs]), [PB L ((asM L s1).2)], ⟨⟨Fk, Fs, by first | rfl | simp only [Item.row_mk, Source.row_mk, SortKey.row_mk, rW, told, Val.row, lc]⟩, rfl⟩, endOk ?_⟩
     simp only [tt, seval, Item.row_mk, bae, PB, z0, Expr.row_mk, told]
     first | done | ((try refine ⟨by omega, ?_⟩); exact pool_ok fun x => by (try simp only [List.flatten_append, List.count_append]); omega)
   | true =>
    have h2' : isT L s 2 (5 : Nat) ⟨#[42]⟩ = true := h2
    simp only [tt, seval]
    have hst : starN L s = true := by unfold starN; rw [hK, h1, h2]; rfl
    rw [if_pos hst] at h
    injection h with h; injection h with h1 h2; subst h1 h2
    have l3 := (starN_lt hst).2
    have l1 := isK_lt hK
    refine cS (pmustKind_d L hL hT s 2 ha) (by decide) ?_ ?_ <;> simp only [tt, seval, PB]
    rw [mt_yes hK]
    have e3 : IntKind.i64.wrap (((adv s).a : Int) + 2) = ((adv (adv (adv s))).a : Int) := by
     show IntKind.i64.wrap (((s.a + 1 : Nat) : Int) + 2) = ((s.a + 1 + 1 + 1 : Nat) : Int)
     rw [wrap_id (n := ((s.a + 1 : Nat) : Int) + 2) (by omega) (by omega)]; omega
    have e4 : (adv s).b = (adv (adv (adv s))).b := rfl
    simp only [seval, e3, e4]
    refine ⟨.ag (told (Item.mk true (textAt L s) zExpr z0).row [[], []]), [PB L (adv (adv (adv s)))], ⟨⟨[], [], by first | rfl | simp only [Item.row_mk, Source.row_mk, SortKey.row_mk, rW, told, Val.row, lc]⟩, rfl⟩, endOk ?_⟩
    simp only [tt, seval, Item.row_mk, bae, PB, zExpr, zVal, z0, Expr.row_mk, told]
    first | done | ((try refine ⟨by omega, ?_⟩); exact pool_ok fun x => by (try simp only [List.count_nil]); omega)
theorem psource_d (L : List Tok) (hL : L.length ≤ 1048576) (hT : ∀ t ∈ L, t.text.size ≤ 1048576) (s : PS) (ha : s.a ≤ L.length) : Cl Tryz.prog 293 [.c (.p 9000 0)] [PB L s] fun r os => r = .ag (told (sourceM L s).1.row [[]]) ∧ os = [PB L (sourceM L s).2] := by
 refine cl_of_d follows_mixed true Tryz.func293 rfl (by kernel_rfl) ?_
 simp only [Tryz.f293, tt, seval]
 refine cS (pmustKind_d L hL hT s 2 ha) (by decide) ?_ ?_ <;> simp only [tt, seval, PB]
 have ha1 := (Ok.mText (L := L) 2 s).2.1 ha
 have he : sourceM L s = (.mk (mText L 2 s).1 (asM L (mText L 2 s).2).1 [], (asM L (mText L 2 s).2).2) := rfl
 rw [he]
 generalize (mText L 2 s).1 = x at *
 generalize (mText L 2 s).2 = u at *
 refine cS (pas_d L hL hT u ha1) (by decide) ?_ ?_ <;> simp only [tt, seval, PB]
 refine ⟨.ag (told (Source.mk x (asM L u).1 []).row [[]]), [PB L (asM L u).2], ⟨rfl, rfl⟩, endOk ?_⟩
 simp only [tt, seval, PB, Source.row_mk, told]
 first | done | ((try refine ⟨by omega, ?_⟩); exact pool_ok fun x => by (try simp only [List.count_nil]); omega)
def TpL (L : List Tok) (fn : FuncId) (m : PM (List Expr)) : Prop := ∀ s x s', m s = some (x, s') → s.a ≤ L.length → Cl Tryz.prog fn [.c (.p 9000 0)] [PB L s] fun r os => (∃ F, r = .c (.ow 29 x.length (x.flatMap Expr.row) (some F))) ∧ os = [PB L s']
theorem pwhere_step (L : List Tok) (hL : L.length ≤ 1048576) (hT : ∀ t ∈ L, t.text.size ≤ 1048576) {f : Nat → PM Expr} (hf1 : TpE L 57 (f 1)) : TpL L 276 (whereM L f) := by
 intro s x s' h ha
 unfold whereM at h
 refine cl_of_d follows_mixed true Tryz.func276 rfl (by kernel_rfl) ?_
 simp only [Tryz.f276, tt, seval]
 refine cS (ptakeKey_d L hL hT s 6 ⟨#[87, 72, 69, 82, 69]⟩ (by kernel_rfl) ha) (by decide) ?_ ?_ <;> simp only [tt, seval, PB]
 cases c6 : isKey L s 6 with
 | true =>
  rw [if_pos c6] at h
  split at h
  ·cases h
  rename_i e s1 he
  injection h with h; injection h with h1 h2; subst h1 h2
  simp only [tt, seval, tkT]
  obtain ⟨k1, p1, n1, v1, q1, m1, ks1, ss1⟩ := e
  have c1 := hf1 _ _ _ he (adv_le (isKey_lt c6))
  rw [Expr.row_mk] at c1
  refine CallQ.intro (c1) ?_ ?_ ?_
  ·decide
  ·simp only [tt, seval, PB]
  rintro r os ⟨⟨Fk, Fs, rfl⟩, rfl⟩ hos
  simp only [tt, seval, PB, told]
  refine ⟨.c (.ow 29 [(Expr.mk k1 p1 n1 v1 q1 m1 ks1 ss1)].length ([(Expr.mk k1 p1 n1 v1 q1 m1 ks1 ss1)].flatMap Expr.row) (some (Fk ++ Fs))), [PB L s1], ⟨⟨_, rfl⟩, rfl⟩, endOk ?_⟩
  simp only [tt, seval, PB, Expr.row_mk]
  first | done | exact Sb.refl _ | ((try refine ⟨by omega, ?_⟩); exact pool_ok fun x => by (try simp only [fb]); omega)
 | false =>
  rw [if_neg (by rw [c6]; simp)] at h
  injection h with h; injection h with h1 h2; subst h1 h2
  simp only [tt, seval, tkF]
  refine ⟨.c (.ow 29 ([] : List Expr).length (([] : List Expr).flatMap Expr.row) (some [])), [PB L s], ⟨⟨_, rfl⟩, rfl⟩, endOk ?_⟩
  simp only [tt, seval, PB]
  first | done | exact Sb.refl _ | ((try refine ⟨by omega, ?_⟩); exact pool_ok fun x => by (try simp only [fb]); omega)
set_option maxHeartbeats 2000000 in
theorem pkey_step (L : List Tok) (hL : L.length ≤ 1048576) (hT : ∀ t ∈ L, t.text.size ≤ 1048576) {f : Nat → PM Expr} (ok : ∀ lv, OkM (L := L) (f lv)) (hf1 : TpE L 57 (f 1)) : TpK L (sortM L f) := by
 intro s x s' h ha
 unfold sortM at h
 split at h
 ·cases h
 rename_i e s1 he
 have ha1 := (ok 1 _ _ _ he).2.1 ha
 obtain ⟨k1, p1, n1, v1, q1, m1, ks1, ss1⟩ := e
 have c1 := hf1 _ _ _ he ha
 rw [Expr.row_mk] at c1
 refine cl_of_d follows_mixed true Tryz.func277 rfl (by kernel_rfl) ?_
 simp only [Tryz.f277, tt, seval]
 refine CallQ.intro (c1) ?_ ?_ ?_
 ·decide
 ·simp only [tt, seval, PB]
 rintro r os ⟨⟨Fk, Fs, rfl⟩, rfl⟩ hos
 simp only [tt, seval, PB, told]
 refine cS (ptakeKey_d L hL hT s1 9 ⟨#[65, 83, 67]⟩ (by kernel_rfl) ha1) (by decide) ?_ ?_ <;> simp only [tt, seval, PB]
 cases c9 : isKey L s1 9 with
 | true =>
  rw [if_pos c9] at h
  injection h with h; injection h with h1 h2; subst h1 h2
  simp only [tt, seval, tkT]
  refine ⟨.ag (told (SortKey.mk (Expr.mk k1 p1 n1 v1 q1 m1 ks1 ss1) false).row [Fk, Fs]), [PB L (adv s1)], ⟨⟨Fk, Fs, by first | rfl | simp only [Item.row_mk, Source.row_mk, SortKey.row_mk, rW, told, Val.row, lc]⟩, rfl⟩, endOk ?_⟩
  simp only [tt, seval, SortKey.row_mk, PB, Expr.row_mk, told]
  first | done | ((try refine ⟨by omega, ?_⟩); exact pool_ok fun x => by (try simp only [List.flatten_append, List.count_append]); omega)
 | false =>
  rw [if_neg (by rw [c9]; simp)] at h
  injection h with h; injection h with h1 h2; subst h1 h2
  simp only [tt, seval, tkF]
  refine cS (ptakeKey_d L hL hT s1 10 ⟨#[68, 69, 83, 67]⟩ (by kernel_rfl) ha1) (by decide) ?_ ?_ <;> simp only [tt, seval, PB]
  refine ⟨.ag (told (SortKey.mk (Expr.mk k1 p1 n1 v1 q1 m1 ks1 ss1) (isKey L s1 10)).row [Fk, Fs]), [PB L (tkIf (isKey L s1 10) s1)], ⟨⟨Fk, Fs, by first | rfl | simp only [Item.row_mk, Source.row_mk, SortKey.row_mk, rW, told, Val.row, lc]⟩, rfl⟩, endOk ?_⟩
  simp only [tt, seval, SortKey.row_mk, PB, Expr.row_mk, told]
  first | done | ((try refine ⟨by omega, ?_⟩); exact pool_ok fun x => by (try simp only [List.flatten_append, List.count_append]); omega)
set_option maxHeartbeats 4000000 in
theorem psources_step (L : List Tok) (hL : L.length ≤ 1048576) (hT : ∀ t ∈ L, t.text.size ≤ 1048576) {f : Nat → PM Expr} (ok : ∀ lv, OkM (L := L) (f lv)) (hf1 : TpE L 57 (f 1)) (s : PS) (x : List Source) (s' : PS) (h : sourcesM L f (L.length + 1) [(sourceM L s).1] (sourceM L s).2 = some (x, s')) (ha : s.a ≤ L.length) : Cl Tryz.prog 275 [.c (.p 9000 0)] [PB L s] fun r os => (∃ F, r = .c (.ow 134 x.length (x.flatMap Source.row) (some F))) ∧ os = [PB L s'] := by
 have c1 := psource_d L hL hT s ha
 have ha1 := (Ok.sourceM (L := L) s).2.1 ha
 generalize (sourceM L s).2 = s1 at *
 generalize (sourceM L s).1 = sr1 at *
 obtain ⟨tb1, sa1, on1⟩ := sr1
 rw [Source.row_mk] at c1
 refine cl_of_d follows_mixed true Tryz.func275 rfl (by kernel_rfl) ?_
 simp only [Tryz.f275, tt, seval]
 refine cS (c1) (by decide) ?_ ?_ <;> simp only [tt, seval, PB, told]
 refine dLoop.gh [.ren 7 31] ⟨by decide, by decide, ?_⟩
 refine dLoop0.introR (fun f' Lo p => ∃ (l : List Source) (v : PS) (n : Nat) (Fl Pl : List (List Nat)), f' 3 = .c (.s 31 l.length) ∧ sourcesM L f n l v = some (x, s') ∧ v.a ≤ L.length ∧ l.length ≤ v.a + 1 ∧ Sb Fl.flatten Pl.flatten ∧ Lo = [(9000, .str (PB L v)), (31, .arr 134 (l).length ((l).flatMap Source.row) (some (Fl)))] ∧ p = some Pl) (fun _ Lo _ => L.length - atS Lo) [(9000, .str (PB L s1)), (31, .arr 134 ([Source.mk tb1 sa1 on1]).length (([Source.mk tb1 sa1 on1]).flatMap Source.row) (some ([])))] (some []) ⟨by simp only [Source.row_mk, PB, List.flatMap_nil, List.flatMap_cons, List.append_nil, List.length_nil, List.length_cons]; exact SubO.cons rfl (SubO.cons rfl (SubO.nil _)), PoSub.refl _, ?_⟩ ?_
 ·simp only [tt, seval]
  exact ⟨[Source.mk tb1 sa1 on1], s1, L.length + 1, [], [], rfl, h, ha1, by simp, Sb.refl _, rfl, rfl⟩
 ·rintro g' Lo p ⟨l, v, n, Fl, Pl, h3, hm, hv, hml, hsb, rfl, rfl⟩
  simp only [tt, seval] at h3
  simp only [tt, seval]
  refine cS (ptakeSign_d L hL hT v 44 hv) (by decide) ?_ ?_ <;> simp only [tt, seval, PB, h3]
  cases n with
  | zero => cases hm
  | succ n =>
  rw [sourcesM] at hm
  cases c44 : isSg L v 44 with
  | true =>
   rw [if_pos c44] at hm
   have hav := adv_le (L := L) (isSg_lt c44)
   have hlt := (isSg_lt c44).2
   have c2 := psource_d L hL hT (adv v) hav
   have o2 := Ok.sourceM (L := L) (adv v)
   have o2a : v.a + 1 ≤ (sourceM L (adv v)).2.a := o2.1
   have hw := o2.2.1 hav
   generalize (sourceM L (adv v)).2 = w at *
   generalize (sourceM L (adv v)).1 = sr2 at *
   obtain ⟨tb2, sa2, on2⟩ := sr2
   rw [Source.row_mk] at c2
   simp only [tt, seval, tkT]
   refine cS (c2) (by decide) ?_ ?_ <;> simp only [tt, seval, PB, told]
   refine ⟨by kernel_rfl, ⟨by simp only [maxLen]; omega, by omega⟩, ?_⟩
   refine ⟨[.ren 16 31], by decide, by decide, ?_⟩
   simp only [tt, seval]
   refine ⟨[(9000, .str (PB L w)), (31, .arr 134 ((l ++ [Source.mk tb2 sa2 on2])).length (((l ++ [Source.mk tb2 sa2 on2])).flatMap Source.row) (some (Fl)))], some Pl, by simp only [Source.row_mk, PB, List.flatMap_nil, List.flatMap_cons, List.append_nil, List.length_nil, List.length_cons, List.flatMap_append, List.length_append]; exact SubO.cons rfl (SubO.cons rfl (SubO.nil _)), PoSub.refl _, ⟨l ++ [Source.mk tb2 sa2 on2], w, n, Fl, Pl, by simp only [tt, seval, List.length_append], hm, hw, by simp; omega, hsb, rfl, rfl⟩, ?_⟩
   show L.length - ((w.a : Int)).toNat < L.length - ((v.a : Int)).toNat
   omega
  | false =>
   rw [if_neg (by rw [c44]; simp)] at hm
   simp only [tt, seval, tkF]
   refine cS (ptakeKey_d L hL hT v 4 ⟨#[74, 79, 73, 78]⟩ (by kernel_rfl) hv) (by decide) ?_ ?_ <;> simp only [tt, seval, PB, h3]
   cases k4 : isKey L v 4 with
   | true =>
    rw [if_pos k4] at hm
    simp only at hm
    split at hm
    ·cases hm
    rename_i e7 s7 he7
    have hav := adv_le (L := L) (isKey_lt k4)
    have hlt := (isKey_lt k4).2
    have c2 := psource_d L hL hT (adv v) hav
    have o2 := Ok.sourceM (L := L) (adv v)
    have o2a : v.a + 1 ≤ (sourceM L (adv v)).2.a := o2.1
    have hw := o2.2.1 hav
    generalize (sourceM L (adv v)).2 = w at *
    generalize (sourceM L (adv v)).1 = sr2 at *
    obtain ⟨tb2, sa2, on2⟩ := sr2
    rw [Source.row_mk] at c2
    simp only [tt, seval, tkT]
    refine cS (c2) (by decide) ?_ ?_ <;> simp only [tt, seval, PB, told]
    refine cS (pmustKey_d L hL hT w 5 ⟨#[79, 78]⟩ (by kernel_rfl) hw) (by decide) ?_ ?_ <;> simp only [tt, seval, PB]
    have o7 : Ok L w (must (isKey L w 5) w) := Ok.must fun h => isKey_lt h
    have o7a := o7.1
    have hw7 := o7.2.1 hw
    generalize must (isKey L w 5) w = w7 at *
    have o8 := ok 1 _ _ _ he7
    have o8a := o8.1
    have hs7 := o8.2.1 hw7
    obtain ⟨k7, p7, n7, x7, q7, m7, ks7, ss7⟩ := e7
    have c7 := hf1 _ _ _ he7 hw7
    rw [Expr.row_mk] at c7
    refine CallQ.intro (c7) ?_ ?_ ?_
    ·decide
    ·simp only [tt, seval, PB]
    rintro r os ⟨⟨Fk, Fs, rfl⟩, rfl⟩ hos
    simp only [tt, seval, PB, h3, told]
    refine fun G => ?_
    refine ⟨by kernel_rfl, ⟨by simp only [maxLen]; omega, by omega⟩, ?_⟩
    refine ⟨[], ?_⟩
    refine ⟨[(9000, .str (PB L s7)), (31, .arr 134 ((l ++ [Source.mk tb2 sa2 [(Expr.mk k7 p7 n7 x7 q7 m7 ks7 ss7)]])).length (((l ++ [Source.mk tb2 sa2 [(Expr.mk k7 p7 n7 x7 q7 m7 ks7 ss7)]])).flatMap Source.row) (some (Fl ++ (G :: (Fk ++ Fs)))))], some (G :: (Pl ++ (Fk ++ Fs))), by simp only [Source.row_mk, PB, Expr.row_mk, List.flatMap_nil, List.flatMap_cons, List.append_nil, List.length_nil, List.length_cons, List.flatMap_append, List.length_append]; exact SubO.cons rfl (SubO.cons rfl (SubO.nil _)), PoSub.refl _, ⟨l ++ [Source.mk tb2 sa2 [(Expr.mk k7 p7 n7 x7 q7 m7 ks7 ss7)]], s7, n, _, _, by simp only [tt, seval, List.length_append], hm, hs7, by simp; omega, fun x => by have := hsb x; simp only [List.flatten_append, List.flatten_cons, List.count_append] at this ⊢; omega, rfl, rfl⟩, ?_⟩
    show L.length - ((s7.a : Int)).toNat < L.length - ((v.a : Int)).toNat
    omega
   | false =>
    rw [if_neg (by rw [k4]; simp)] at hm
    injection hm with hm; injection hm with e1 e2; subst e1 e2
    simp only [tt, seval, tkF]
    refine ⟨.c (.ow 134 l.length (l.flatMap Source.row) (some Fl)), [PB L v], ⟨⟨_, rfl⟩, rfl⟩, endOk ?_⟩
    simp only [tt, seval, PB]
    exact hsb
set_option maxHeartbeats 16000000 in
theorem pquery_step (L : List Tok) (hL : L.length ≤ 1048576) (hT : ∀ t ∈ L, t.text.size ≤ 1048576) {f : Nat → PM Expr} (ok : ∀ lv, OkM (L := L) (f lv)) (hf1 : TpE L 57 (f 1)) : TpQ L 256 (stepQ L f) := by
 intro s x s' h ha
 unfold stepQ at h
 simp only at h
 refine cl_of_d follows_mixed true Tryz.func256 rfl (by kernel_rfl) ?_
 simp only [Tryz.f256, tt, seval]
 refine cS (pmustKey_d L hL hT s 1 ⟨#[83, 69, 76, 69, 67, 84]⟩ (by kernel_rfl) ha) (by decide) ?_ ?_ <;> simp only [tt, seval, PB]
 have o1 : Ok L s (must (isKey L s 1) s) := Ok.must fun h => isKey_lt h
 have ha1 := o1.2.1 ha
 generalize must (isKey L s 1) s = u1 at *
 refine cS (ptakeKey_d L hL hT u1 2 ⟨#[68, 73, 83, 84, 73, 78, 67, 84]⟩ (by kernel_rfl) ha1) (by decide) ?_ ?_ <;> simp only [tt, seval, PB]
 have o2 : Ok L u1 (tkIf (isKey L u1 2) u1) := Ok.tkIf fun h => isKey_lt h
 have ha2 := o2.2.1 ha1
 generalize tkIf (isKey L u1 2) u1 = u2 at *
 generalize isKey L u1 2 = dist at *
 split at h
 ·cases h
 rename_i its u3 hits
 unfold itemsM at hits
 split at hits
 ·cases hits
 rename_i it1 v1 hit1
 have c1 := pitem_step L hL hT ok hf1 _ _ _ hit1 ha2
 obtain ⟨star1, qual1, ⟨k1, p1, n1, w1, q1, m1, ks1, ss1⟩, as1⟩ := it1
 rw [Item.row_mk, Expr.row_mk] at c1
 have hav1 := (OkM.item ok _ _ _ hit1).2.1 ha2
 refine CallQ.intro (c1) ?_ ?_ ?_
 ·decide
 ·simp only [tt, seval, PB]
 rintro r os ⟨⟨F0, F1, rfl⟩, rfl⟩ hos
 simp only [tt, seval, PB, told]
 refine dLoop.gh [.ren 11 20] ⟨by decide, by decide, ?_⟩
 refine dLoop0.intro (fun f' Lo p => ∃ (m : List Item) (v : PS) (n : Nat) (Fm Pl : List (List Nat)), sepM L (itemM L f) n m v = some (its, u3) ∧ v.a ≤ L.length ∧ m.length ≤ v.a + 1 ∧ Sb Fm.flatten Pl.flatten ∧ Lo = [(9000, .str (PB L v)), (3, .str [.v (.bool dist), .s 20 (m).length, .v (.slice none 0 0), .v (.slice none 0 0), .v (.slice none 0 0), .v (.int .i64 (-1))]), (20, .arr 132 (m).length ((m).flatMap Item.row) (some (Fm))), (2, .str [.v (.bool false), .v (.slice none 0 0), .v (.slice none 0 0), .v (.slice none 0 0), .v (.slice none 0 0), .v (.int .i64 0)])] ∧ p = some Pl) (fun _ Lo _ => L.length - atS Lo) [(9000, .str (PB L v1)), (3, .str [.v (.bool dist), .s 20 ([(Item.mk star1 qual1 (Expr.mk k1 p1 n1 w1 q1 m1 ks1 ss1) as1)]).length, .v (.slice none 0 0), .v (.slice none 0 0), .v (.slice none 0 0), .v (.int .i64 (-1))]), (20, .arr 132 ([(Item.mk star1 qual1 (Expr.mk k1 p1 n1 w1 q1 m1 ks1 ss1) as1)]).length (([(Item.mk star1 qual1 (Expr.mk k1 p1 n1 w1 q1 m1 ks1 ss1) as1)]).flatMap Item.row) (some (F0 ++ F1))), (2, .str [.v (.bool false), .v (.slice none 0 0), .v (.slice none 0 0), .v (.slice none 0 0), .v (.slice none 0 0), .v (.int .i64 0)])] (some (F0 ++ F1)) ⟨by simp only [Item.row_mk, PB, Expr.row_mk, List.flatMap_nil, List.flatMap_cons, List.append_nil, List.length_nil, List.length_cons, lc]; exact SubO.cons rfl (SubO.cons rfl (SubO.cons rfl (SubO.cons rfl (SubO.nil _)))), PoSub.refl _, ?_⟩ ?_
 ·simp only [tt, seval]
  exact ⟨[(Item.mk star1 qual1 (Expr.mk k1 p1 n1 w1 q1 m1 ks1 ss1) as1)], v1, L.length + 1, F0 ++ F1, F0 ++ F1, hits, hav1, by simp, Sb.refl _, rfl, rfl⟩
 ·rintro g' Lo p ⟨m, v, n, Fm, Pl, hm, hv, hml, hsb, rfl, rfl⟩
  simp only [tt, seval]
  refine cS (ptakeSign_d L hL hT v 44 hv) (by decide) ?_ ?_ <;> simp only [tt, seval, PB]
  cases n with
  | zero => cases hm
  | succ n =>
  rw [sepM] at hm
  cases c44 : isSg L v 44 with
  | true =>
   rw [if_pos c44] at hm
   split at hm
   ·cases hm
   rename_i z w hz
   have hlt := (isSg_lt c44).2
   have hav := adv_le (L := L) (isSg_lt c44)
   have o3 := OkM.item ok _ _ _ hz
   have o3a : v.a + 1 ≤ w.a := o3.1
   have hw := o3.2.1 hav
   have c2 := pitem_step L hL hT ok hf1 _ _ _ hz hav
   obtain ⟨star2, qual2, ⟨k2, p2, n2, w2, q2, m2, ks2, ss2⟩, as2⟩ := z
   rw [Item.row_mk, Expr.row_mk] at c2
   simp only [tt, seval, tkT]
   refine dDrawn.intro [18] (.take 0 (.take 2 (.br 1 (.br 3 (.br 4 (.br 5 (.take 6 (.br 7 .done .nobr)) .nobr) .nobr) .nobr) (.br 3 (.take 1 (.br 4 (.br 5 (.take 6 (.br 7 .done .nobr)) .nobr) .nobr)) .nobr)))) (by kernel_rfl) ?_
   simp only [tt, seval]
   all_goals repeat' first | refine brC ?_ ?_ | refine brC2 ?_ ?_
   all_goals
    refine CallQ.intro (c2) ?_ ?_ ?_
    ·decide
    ·simp only [tt, seval, PB]
     decide
    rintro r os ⟨⟨F0, F1, rfl⟩, rfl⟩ hos
    simp only [tt, seval, PB, told]
   all_goals repeat' first | refine brA ?_ ?_ | refine brA2 ?_ ?_ | refine brA3 ?_ ?_
   all_goals
    refine ⟨by kernel_rfl, ⟨by simp only [maxLen]; omega, by omega⟩, ?_⟩
   all_goals
    refine ⟨[(9000, .str (PB L w)), (3, .str [.v (.bool dist), .s 20 ((m ++ [(Item.mk star2 qual2 (Expr.mk k2 p2 n2 w2 q2 m2 ks2 ss2) as2)])).length, .v (.slice none 0 0), .v (.slice none 0 0), .v (.slice none 0 0), .v (.int .i64 (-1))]), (20, .arr 132 ((m ++ [(Item.mk star2 qual2 (Expr.mk k2 p2 n2 w2 q2 m2 ks2 ss2) as2)])).length (((m ++ [(Item.mk star2 qual2 (Expr.mk k2 p2 n2 w2 q2 m2 ks2 ss2) as2)])).flatMap Item.row) (some (Fm ++ (F0 ++ F1)))), (2, .str [.v (.bool false), .v (.slice none 0 0), .v (.slice none 0 0), .v (.slice none 0 0), .v (.slice none 0 0), .v (.int .i64 0)])], some (Pl ++ (F0 ++ F1)), by simp only [Item.row_mk, PB, Expr.row_mk, List.flatMap_nil, List.flatMap_cons, List.append_nil, List.length_nil, List.length_cons, lc, List.flatMap_append, List.length_append]; exact SubO.cons rfl (SubO.cons rfl (SubO.cons rfl (SubO.cons rfl (SubO.nil _)))), PoSub.refl _, ⟨m ++ [(Item.mk star2 qual2 (Expr.mk k2 p2 n2 w2 q2 m2 ks2 ss2) as2)], w, n, _, _, hm, hw, by simp; omega, by simp only [List.flatten_append]; exact hsb.append (Sb.refl _), rfl, rfl⟩, ?_⟩
    show L.length - ((w.a : Int)).toNat < L.length - ((v.a : Int)).toNat
    omega
  | false =>
   rw [if_neg (by rw [c44]; simp)] at hm
   injection hm with hm; injection hm with e1 e2; subst e1 e2
   simp only [tt, seval, tkF]
   refine cS (pmustKey_d L hL hT v 3 ⟨#[70, 82, 79, 77]⟩ (by kernel_rfl) hv) (by decide) ?_ ?_ <;> simp only [tt, seval, PB]
   have o4 : Ok L v (must (isKey L v 3) v) := Ok.must fun h => isKey_lt h
   have ha4 := o4.2.1 hv
   generalize must (isKey L v 3) v = u4 at *
   split at h
   ·cases h
   rename_i frs s4 hfrs
   have cf := psources_step L hL hT ok hf1 u4 _ _ hfrs ha4
   have hs4 := (OkM.sources ok _ _ _ _ _ hfrs).2.1 ((Ok.sourceM (L := L) u4).2.1 ha4)
   refine CallQ.intro (cf) ?_ ?_ ?_
   ·decide
   ·simp only [tt, seval, PB]
   rintro r os ⟨⟨Fr, rfl⟩, rfl⟩ hos
   simp only [tt, seval, PB]
   split at h
   ·cases h
   rename_i wh s5 hwh
   have hs5 := (OkM.wher ok _ _ _ hwh).2.1 hs4
   have cw := pwhere_step L hL hT hf1 _ _ _ hwh hs4
   refine CallQ.intro (cw) ?_ ?_ ?_
   ·decide
   ·simp only [tt, seval, PB]
   rintro r os ⟨⟨Fw, rfl⟩, rfl⟩ hos
   simp only [tt, seval, PB]
   refine cS (ptakeKey_d L hL hT s5 7 ⟨#[79, 82, 68, 69, 82]⟩ (by kernel_rfl) hs5) (by decide) ?_ ?_ <;> simp only [tt, seval, PB]
   split at h
   ·cases h
   rename_i ord s6 hord
   unfold orderM at hord
   cases c7 : isKey L s5 7 with
   | false =>
    rw [if_neg (by rw [c7]; simp)] at hord
    injection hord with hord; injection hord with e1 e2; subst e1 e2
    simp only [tt, seval, tkF]
    refine cS (ptakeKey_d L hL hT s5 11 ⟨#[76, 73, 77, 73, 84]⟩ (by kernel_rfl) hs5) (by decide) ?_ ?_ <;> simp only [tt, seval, PB]
    cases c11 : isKey L s5 11 with
    | true =>
     have hlim : limitM L s5 = mNum L (adv s5) := by rw [limitM, if_pos c11]
     rw [hlim] at h
     injection h with h; injection h with h1 h2; subst h1 h2
     simp only [tt, seval, tkT]
     refine cS (pmustNumber_d L hL hT (adv s5) (adv_le (isKey_lt c11))) (by decide) ?_ ?_ <;> simp only [tt, seval, PB]
     generalize (mNum L (adv s5)).1 = xn at *
     generalize (mNum L (adv s5)).2 = sn at *
     refine fun G0 G1 G2 => ?_
     refine ⟨.ag (told (Query.mk dist m frs wh ([] : List SortKey) xn).row [G0 :: Fm, G1 :: Fr, G2 :: Fw, []]), [PB L (sn)], ⟨⟨G0 :: Fm, G1 :: Fr, G2 :: Fw, [], by first | rfl | simp only [Item.row_mk, Source.row_mk, SortKey.row_mk, rW, told, Val.row, lc]⟩, rfl⟩, endOk ?_⟩
     simp only [tt, seval, PB, Query.row_mk, told]
     exact fun x => by have := hsb x; simp only [List.flatten_append, List.flatten_cons, List.count_append] at this ⊢; omega
    | false =>
     have hlim : limitM L s5 = (-1, s5) := by rw [limitM, if_neg (by rw [c11]; simp)]
     rw [hlim] at h
     injection h with h; injection h with h1 h2; subst h1 h2
     simp only [tt, seval, tkF]
     refine fun G0 G1 G2 => ?_
     refine ⟨.ag (told (Query.mk dist m frs wh ([] : List SortKey) (-1)).row [G0 :: Fm, G1 :: Fr, G2 :: Fw, []]), [PB L (s5)], ⟨⟨G0 :: Fm, G1 :: Fr, G2 :: Fw, [], by first | rfl | simp only [Item.row_mk, Source.row_mk, SortKey.row_mk, rW, told, Val.row, lc]⟩, rfl⟩, endOk ?_⟩
     simp only [tt, seval, PB, Query.row_mk, told]
     exact fun x => by have := hsb x; simp only [List.flatten_append, List.flatten_cons, List.count_append] at this ⊢; omega
   | true =>
    rw [if_pos c7] at hord
    simp only at hord
    split at hord
    ·cases hord
    rename_i z1 y1 hz1
    simp only [tt, seval, tkT]
    have hav5 := adv_le (L := L) (isKey_lt c7)
    refine cS (pmustKey_d L hL hT (adv s5) 8 ⟨#[66, 89]⟩ (by kernel_rfl) hav5) (by decide) ?_ ?_ <;> simp only [tt, seval, PB]
    have o9 : Ok L (adv s5) (must (isKey L (adv s5) 8) (adv s5)) := Ok.must fun h => isKey_lt h
    have hu9 := o9.2.1 hav5
    generalize must (isKey L (adv s5) 8) (adv s5) = u9 at *
    have c9 := pkey_step L hL hT ok hf1 _ _ _ hz1 hu9
    have hy1 := (OkM.sort ok _ _ _ hz1).2.1 hu9
    obtain ⟨⟨k9, p9, n9, x9, q9, m9, ks9, ss9⟩, de9⟩ := z1
    rw [SortKey.row_mk, Expr.row_mk] at c9
    refine CallQ.intro (c9) ?_ ?_ ?_
    ·decide
    ·simp only [tt, seval, PB]
    rintro r os ⟨⟨H0, H1, rfl⟩, rfl⟩ hos
    simp only [tt, seval, PB, told]
    refine dLoop.gh [.ren 36 45] ⟨by decide, by decide, ?_⟩
    refine dLoop0.intro (fun f' Lo p => ∃ (l9 : List SortKey) (v9 : PS) (n9' : Nat) (Fo Pl9 : List (List Nat)), sepM L (sortM L f) n9' l9 v9 = some (ord, s6) ∧ v9.a ≤ L.length ∧ l9.length ≤ v9.a + 1 ∧ Sb (Fm ++ (Fr ++ (Fw ++ Fo))).flatten Pl9.flatten ∧ Lo = [(9000, .str (PB L v9)), (3, .str [.v (.bool dist), .s 20 m.length, .s 10025 frs.length, .s 10028 wh.length, .s 45 (l9).length, .v (.int .i64 (-1))]), (20, .arr 132 m.length (m.flatMap Item.row) (some Fm)), (10025, .arr 134 frs.length (frs.flatMap Source.row) (some Fr)), (10028, .arr 29 wh.length (wh.flatMap Expr.row) (some Fw)), (45, .arr 136 (l9).length ((l9).flatMap SortKey.row) (some (Fo))), (2, .str [.v (.bool false), .v (.slice none 0 0), .v (.slice none 0 0), .v (.slice none 0 0), .v (.slice none 0 0), .v (.int .i64 0)])] ∧ p = some Pl9) (fun _ Lo _ => L.length - atS Lo) [(9000, .str (PB L y1)), (3, .str [.v (.bool dist), .s 20 m.length, .s 10025 frs.length, .s 10028 wh.length, .s 45 ([(SortKey.mk (Expr.mk k9 p9 n9 x9 q9 m9 ks9 ss9) de9)]).length, .v (.int .i64 (-1))]), (20, .arr 132 m.length (m.flatMap Item.row) (some Fm)), (10025, .arr 134 frs.length (frs.flatMap Source.row) (some Fr)), (10028, .arr 29 wh.length (wh.flatMap Expr.row) (some Fw)), (45, .arr 136 ([(SortKey.mk (Expr.mk k9 p9 n9 x9 q9 m9 ks9 ss9) de9)]).length (([(SortKey.mk (Expr.mk k9 p9 n9 x9 q9 m9 ks9 ss9) de9)]).flatMap SortKey.row) (some (H0 ++ H1))), (2, .str [.v (.bool false), .v (.slice none 0 0), .v (.slice none 0 0), .v (.slice none 0 0), .v (.slice none 0 0), .v (.int .i64 0)])] (some (Pl ++ Fr ++ Fw ++ (H0 ++ H1))) ⟨by simp only [SortKey.row_mk, PB, Expr.row_mk, List.flatMap_nil, List.flatMap_cons, List.append_nil, List.length_nil, List.length_cons, lc]; exact SubO.cons rfl (SubO.cons rfl (SubO.cons rfl (SubO.cons rfl (SubO.cons rfl (SubO.cons rfl (SubO.cons rfl (SubO.nil _))))))), PoSub.refl _, ?_⟩ ?_
    ·simp only [tt, seval]
     exact ⟨[(SortKey.mk (Expr.mk k9 p9 n9 x9 q9 m9 ks9 ss9) de9)], y1, L.length + 1, H0 ++ H1, _, hord, hy1, by simp, fun x => by have := hsb x; simp only [List.flatten_append, List.count_append] at this ⊢; omega, rfl, rfl⟩
    ·rintro g3 Lo p ⟨l9, v9, n9', Fo, Pl9, hm9, hv9, hml9, hsb9, rfl, rfl⟩
     simp only [tt, seval]
     refine cS (ptakeSign_d L hL hT v9 44 hv9) (by decide) ?_ ?_ <;> simp only [tt, seval, PB]
     cases n9' with
     | zero => cases hm9
     | succ n9' =>
     rw [sepM] at hm9
     cases c44 : isSg L v9 44 with
     | true =>
      rw [if_pos c44] at hm9
      split at hm9
      ·cases hm9
      rename_i za wa hza
      have hlt9 := (isSg_lt c44).2
      have hav9 := adv_le (L := L) (isSg_lt c44)
      have oa := OkM.sort ok _ _ _ hza
      have oaa : v9.a + 1 ≤ wa.a := oa.1
      have hwa := oa.2.1 hav9
      have ca := pkey_step L hL hT ok hf1 _ _ _ hza hav9
      obtain ⟨⟨ka, pa, na, xa, qa, ma, ksa, ssa⟩, dea⟩ := za
      rw [SortKey.row_mk, Expr.row_mk] at ca
      simp only [tt, seval, tkT]
      refine dDrawn.intro [43] (.take 0 (.take 2 (.br 1 (.br 3 (.br 4 (.br 5 (.take 6 (.br 7 .done .nobr)) .nobr) .nobr) .nobr) (.br 3 (.take 1 (.br 4 (.br 5 (.take 6 (.br 7 .done .nobr)) .nobr) .nobr)) .nobr)))) (by kernel_rfl) ?_
      simp only [tt, seval]
      all_goals repeat' first | refine brC ?_ ?_ | refine brC2 ?_ ?_
      all_goals
       refine CallQ.intro (ca) ?_ ?_ ?_
       ·decide
       ·simp only [tt, seval, PB]
        decide
       rintro r os ⟨⟨F0, F1, rfl⟩, rfl⟩ hos
       simp only [tt, seval, PB, told]
      all_goals repeat' first | refine brA ?_ ?_ | refine brA2 ?_ ?_ | refine brA3 ?_ ?_
      all_goals
       refine ⟨by kernel_rfl, ⟨by simp only [maxLen]; omega, by omega⟩, ?_⟩
      all_goals
       refine ⟨[(9000, .str (PB L wa)), (3, .str [.v (.bool dist), .s 20 m.length, .s 10025 frs.length, .s 10028 wh.length, .s 45 ((l9 ++ [(SortKey.mk (Expr.mk ka pa na xa qa ma ksa ssa) dea)])).length, .v (.int .i64 (-1))]), (20, .arr 132 m.length (m.flatMap Item.row) (some Fm)), (10025, .arr 134 frs.length (frs.flatMap Source.row) (some Fr)), (10028, .arr 29 wh.length (wh.flatMap Expr.row) (some Fw)), (45, .arr 136 ((l9 ++ [(SortKey.mk (Expr.mk ka pa na xa qa ma ksa ssa) dea)])).length (((l9 ++ [(SortKey.mk (Expr.mk ka pa na xa qa ma ksa ssa) dea)])).flatMap SortKey.row) (some (Fo ++ (F0 ++ F1)))), (2, .str [.v (.bool false), .v (.slice none 0 0), .v (.slice none 0 0), .v (.slice none 0 0), .v (.slice none 0 0), .v (.int .i64 0)])], some (Pl9 ++ (F0 ++ F1)), by simp only [SortKey.row_mk, PB, Expr.row_mk, List.flatMap_nil, List.flatMap_cons, List.append_nil, List.length_nil, List.length_cons, lc, List.flatMap_append, List.length_append]; exact SubO.cons rfl (SubO.cons rfl (SubO.cons rfl (SubO.cons rfl (SubO.cons rfl (SubO.cons rfl (SubO.cons rfl (SubO.nil _))))))), PoSub.refl _, ⟨l9 ++ [(SortKey.mk (Expr.mk ka pa na xa qa ma ksa ssa) dea)], wa, n9', _, _, hm9, hwa, by simp; omega, fun x => by have := hsb9 x; simp only [List.flatten_append, List.count_append] at this ⊢; omega, rfl, rfl⟩, ?_⟩
       show L.length - ((wa.a : Int)).toNat < L.length - ((v9.a : Int)).toNat
       omega
     | false =>
      rw [if_neg (by rw [c44]; simp)] at hm9
      injection hm9 with hm9; injection hm9 with e1 e2; subst e1 e2
      simp only [tt, seval, tkF]
      refine cS (ptakeKey_d L hL hT v9 11 ⟨#[76, 73, 77, 73, 84]⟩ (by kernel_rfl) hv9) (by decide) ?_ ?_ <;> simp only [tt, seval, PB]
      cases c11 : isKey L v9 11 with
      | true =>
       have hlim : limitM L v9 = mNum L (adv v9) := by rw [limitM, if_pos c11]
       rw [hlim] at h
       injection h with h; injection h with h1 h2; subst h1 h2
       simp only [tt, seval, tkT]
       refine cS (pmustNumber_d L hL hT (adv v9) (adv_le (isKey_lt c11))) (by decide) ?_ ?_ <;> simp only [tt, seval, PB]
       generalize (mNum L (adv v9)).1 = xn at *
       generalize (mNum L (adv v9)).2 = sn at *
       refine fun G0 G1 G2 G3 => ?_
       refine ⟨.ag (told (Query.mk dist m frs wh l9 xn).row [G0 :: Fm, G1 :: Fr, G2 :: Fw, G3 :: Fo]), [PB L (sn)], ⟨⟨G0 :: Fm, G1 :: Fr, G2 :: Fw, G3 :: Fo, by first | rfl | simp only [Item.row_mk, Source.row_mk, SortKey.row_mk, rW, told, Val.row, lc]⟩, rfl⟩, endOk ?_⟩
       simp only [tt, seval, PB, Query.row_mk, told]
       exact fun x => by have := hsb9 x; simp only [List.flatten_append, List.flatten_cons, List.count_append] at this ⊢; omega
      | false =>
       have hlim : limitM L v9 = (-1, v9) := by rw [limitM, if_neg (by rw [c11]; simp)]
       rw [hlim] at h
       injection h with h; injection h with h1 h2; subst h1 h2
       simp only [tt, seval, tkF]
       refine fun G0 G1 G2 G3 => ?_
       refine ⟨.ag (told (Query.mk dist m frs wh l9 (-1)).row [G0 :: Fm, G1 :: Fr, G2 :: Fw, G3 :: Fo]), [PB L (v9)], ⟨⟨G0 :: Fm, G1 :: Fr, G2 :: Fw, G3 :: Fo, by first | rfl | simp only [Item.row_mk, Source.row_mk, SortKey.row_mk, rW, told, Val.row, lc]⟩, rfl⟩, endOk ?_⟩
       simp only [tt, seval, PB, Query.row_mk, told]
       exact fun x => by have := hsb9 x; simp only [List.flatten_append, List.flatten_cons, List.count_append] at this ⊢; omega
theorem implP (L : List Tok) (hL : L.length ≤ 1048576) (hT : ∀ t ∈ L, t.text.size ≤ 1048576) : ∀ k, TpE L 57 ((pP L k).1 1) ∧ TpE L 128 ((pP L k).1 2) ∧ TpE L 190 ((pP L k).1 3) ∧ TpE L 224 ((pP L k).1 4) ∧ TpE L 240 ((pP L k).1 5) ∧ TpE L 254 ((pP L k).1 6) ∧ TpE L 272 ((pP L k).1 7) ∧ TpE L 288 ((pP L k).1 8) ∧ TpE L 299 ((pP L k).1 9) ∧ TpQ L 256 (pP L k).2
 | 0 => ⟨fun _ _ _ h => (by cases h), fun _ _ _ h => (by cases h), fun _ _ _ h => (by cases h), fun _ _ _ h => (by cases h), fun _ _ _ h => (by cases h), fun _ _ _ h => (by cases h), fun _ _ _ h => (by cases h), fun _ _ _ h => (by cases h), fun _ _ _ h => (by cases h), fun _ _ _ h => (by cases h)⟩
 | k + 1 => by
  obtain ⟨h0, h1, h2, h3, h4, h5, h6, h7, h8, hq⟩ := implP L hL hT k
  obtain ⟨ok, okq⟩ := pP_ok (L := L) k
  have e9 : (pP L (k + 1)).1 9 = primM L (pP L k).1 (pP L k).2 := rfl
  refine ⟨?_, ?_, ?_, ?_, ?_, ?_, ?_, ?_, ?_, pquery_step L hL hT ok h0⟩
  ·show TpE L _ (stepE L (pP L k).1 (pP L k).2 1); exact por_step L hL hT (ok 2) h1
  ·show TpE L _ (stepE L (pP L k).1 (pP L k).2 2); exact pand_step L hL hT (ok 3) h2
  ·show TpE L _ (stepE L (pP L k).1 (pP L k).2 3); exact pnot_step L hL hT h2 h3
  ·show TpE L _ (stepE L (pP L k).1 (pP L k).2 4); exact pcmp_step L hL hT ok okq h0 h4 hq
  ·show TpE L _ (stepE L (pP L k).1 (pP L k).2 5); exact pcat_step L hL hT (ok 6) h5
  ·show TpE L _ (stepE L (pP L k).1 (pP L k).2 6); exact psum_step L hL hT (ok 7) h6
  ·show TpE L _ (stepE L (pP L k).1 (pP L k).2 7); exact pprod_step L hL hT (ok 8) h7
  ·show TpE L _ (stepE L (pP L k).1 (pP L k).2 8); exact pneg_step L hL hT h7 h8
  ·rw [e9]; exact pprim_step L hL hT (ok 1) okq h0 hq
theorem por_d (L : List Tok) (hL : L.length ≤ 1048576) (hT : ∀ t ∈ L, t.text.size ≤ 1048576) : TpE L 57 (pExpr L 1) := (implP L hL hT (pD L)).1
theorem iTakeExpr_d (L : List Tok) (hL : L.length ≤ 1048576) (hT : ∀ t ∈ L, t.text.size ≤ 1048576) : Cl Tryz.prog 18 [.c (.sl L.length (L.flatMap Tok.row) none)] [] fun r _ => ∃ Fk Fs, r = .tu [(told (takeE L).1.row [Fk, Fs], false), ([.v (.int .i64 (takeE L).2)], true)] := by
 obtain ⟨x, s1, hx⟩ := pExpr_df (L := L) 1 (by omega) (by omega) s0
 have ha := (pExpr_ok (L := L) 1 _ _ _ hx).2.1 (Nat.zero_le _)
 have c1 := por_d L hL hT _ _ _ hx (Nat.zero_le _)
 have ht : takeE L = takeM L zExpr (some (x, s1)) := by unfold takeE; rw [hx]
 rw [ht]
 obtain ⟨k1, p1, n1, v1, q1, m1, ks1, ss1⟩ := x
 rw [Expr.row_mk] at c1
 refine cl_of_d follows_mixed true Tryz.func18 rfl (by kernel_rfl) ?_
 simp only [Tryz.f18, tt, seval]
 refine CallQ.intro (c1) ?_ ?_ ?_
 ·decide
 ·simp only [tt, seval, PB, s0]
 rintro r os ⟨⟨Fk, Fs, rfl⟩, rfl⟩ hos
 simp only [tt, seval, PB, s0, told]
 refine cS (pend_d L hL hT s1 ha) (by decide) ?_ ?_ <;> simp only [tt, seval, PB]
 refine And.intro (fun hb => ?_) (fun hb => ?_)
 ·have e : takeM L zExpr (some ((Expr.mk k1 p1 n1 v1 q1 m1 ks1 ss1), s1)) = (zExpr, endM L s1) := if_pos hb
  rw [e]
  refine ⟨.tu [(told zExpr.row [[], []], false), ([.v (.int .i64 (endM L s1))], true)], [], ⟨[], [], rfl⟩, endOk ?_⟩
  simp only [tt, seval, bae, zExpr, zVal, z0, Expr.row_mk, told]
  first | done | ((try refine ⟨by omega, ?_⟩); exact pool_ok fun x => by (try simp only [List.flatten_append, List.count_append, List.count_nil]); omega)
 ·have e : takeM L zExpr (some ((Expr.mk k1 p1 n1 v1 q1 m1 ks1 ss1), s1)) = ((Expr.mk k1 p1 n1 v1 q1 m1 ks1 ss1), -1) := if_neg (by omega)
  rw [e]
  refine ⟨.tu [(told (Expr.mk k1 p1 n1 v1 q1 m1 ks1 ss1).row [Fk, Fs], false), ([.v (.int .i64 (-1))], true)], [], ⟨Fk, Fs, rfl⟩, endOk ?_⟩
  simp only [tt, seval, Expr.row_mk, told]
  first | done | ((try refine ⟨by omega, ?_⟩); exact pool_ok fun x => by (try simp only [List.flatten_append, List.count_append]); omega)
end Go.Proofs.YtoegnikpokgbfaaGreatDoor
