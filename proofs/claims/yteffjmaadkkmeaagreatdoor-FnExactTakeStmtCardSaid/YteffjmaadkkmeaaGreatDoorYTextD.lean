/-
  The reference and the program, walked: part 4.
  Conditions: none.
-/
import Derived.Test.YteffjmaadkkmeaaGreatDoorYTextC
import Derived.Test.YteffjmaadkkmeaaGreatDoorRows
import Derived.Test.YteffjmaadkkmeaaGreatDoorTie
import Derived.Test.YteffjmaadkkmeaaGreatDoorCards
import Derived.ProofKit
import Derived.OpenShut
import Derived.Lib.LaidTab
import Derived.Stop.LaidErr
import Derived.MakeChecks
import Derived.Lay
import Derived.SevenTiedAt
import Derived.RowKitTokens
set_option linter.unusedVariables false
set_option linter.unusedSimpArgs false
set_option linter.unusedSectionVars false
set_option maxRecDepth 8000
namespace Go.Proofs.YteffjmaadkkmeaaGreatDoor
open Go Go.Dv Go.Cv
open Go.Vc (D shrI xorI andI and255)
set_option maxHeartbeats 4000000 in
theorem psources_step (L : List Tok) (hL : L.length ≤ 1048576) (hT : ∀ t ∈ L, t.text.size ≤ 1048576) {f : Nat → PM Expr} (ok : ∀ lv, OkM (L := L) (f lv)) (hf1 : TpE L 42 (f 1)) (s : PS) (x : List Source) (s' : PS) (h : sourcesM L f (L.length + 1) [(sourceM L s).1] (sourceM L s).2 = some (x, s')) (ha : s.a ≤ L.length) : Cl Tryz.prog 105 [.c (.p 9000 0)] [PB L s] fun r os => (∃ F, r = .c (.ow 124 x.length (x.flatMap Source.row) (some F))) ∧ os = [PB L s'] := by
 have c1 := psource_d L hL hT s ha
 have ha1 := (Ok.sourceM (L := L) s).2.1 ha
 generalize (sourceM L s).2 = s1 at *
 generalize (sourceM L s).1 = sr1 at *
 obtain ⟨tb1, sa1, on1⟩ := sr1
 rw [Source.row_mk] at c1
 refine cl_of_d follows_mixed true Tryz.func105 rfl (by kernel_rfl) ?_
 simp only [Tryz.f105, tt, seval]
 refine CallQ.intro (c1) ?_ ?_ ?_
 ·decide
 ·simp only [tt, seval, PB, told, Val.row, List.cons_append, List.nil_append]
 rintro r os ⟨rfl, rfl⟩ hos
 simp only [tt, seval, PB, told, Val.row, List.cons_append, List.nil_append]
 refine dLoop.gh [.ren 7 31] ⟨by decide, by decide, ?_⟩
 refine dLoop0.introR (fun f' Lo p => ∃ (l : List Source) (v : PS) (n : Nat) (Fl Pl : List (List Nat)), f' 3 = .c (.s 31 l.length) ∧ sourcesM L f n l v = some (x, s') ∧ v.a ≤ L.length ∧ l.length ≤ v.a + 1 ∧ Sb Fl.flatten Pl.flatten ∧ Lo = [(9000, .str (PB L v)), (31, .arr 124 (l).length ((l).flatMap Source.row) (some (Fl)))] ∧ p = some Pl) (fun _ Lo _ => L.length - atS Lo) [(9000, .str (PB L s1)), (31, .arr 124 ([Source.mk tb1 sa1 on1]).length (([Source.mk tb1 sa1 on1]).flatMap Source.row) (some ([])))] (some []) ⟨by simp only [Item.row_mk, Source.row_mk, SortKey.row_mk, bae, PB, mLit, mCol, mKids, mUn, mBin, zExpr, zVal, z0, Expr.row_mk, Query.row_mk, List.flatMap_nil, List.flatMap_cons, List.append_nil, List.length_nil, List.length_cons, Val.row, List.cons_append, List.nil_append, List.flatMap_append, List.length_append]; exact SubO.cons rfl (SubO.cons rfl (SubO.nil _)), PoSub.refl _, ?_⟩ ?_
 ·simp only [tt, seval]
  exact ⟨[Source.mk tb1 sa1 on1], s1, L.length + 1, [], [], rfl, h, ha1, by simp, Sb.refl _, rfl, rfl⟩
 ·rintro g' Lo p ⟨l, v, n, Fl, Pl, h3, hm, hv, hml, hsb, rfl, rfl⟩
  simp only [tt, seval] at h3
  simp only [tt, seval, h3]
  refine CallQ.intro (ptakeSign_d L hL hT v 44 hv) ?_ ?_ ?_
  ·decide
  ·simp only [tt, seval, PB, h3]
  rintro r os ⟨rfl, rfl⟩ hos
  simp only [tt, seval, PB, h3]
  cases n with
  | zero => cases hm
  | succ n =>
  rw [sourcesM] at hm
  cases c44 : isSg L v 44 with
  | true =>
   rw [if_pos c44] at hm
   have hav := adv_le (L := L) (isSg_lt c44)
   have hlt := (isSg_lt c44).2
   have c2 := psource_d L hL hT (adv v) hav
   have o2 := Ok.sourceM (L := L) (adv v)
   have o2a : v.a + 1 ≤ (sourceM L (adv v)).2.a := o2.1
   have hw := o2.2.1 hav
   generalize (sourceM L (adv v)).2 = w at *
   generalize (sourceM L (adv v)).1 = sr2 at *
   obtain ⟨tb2, sa2, on2⟩ := sr2
   rw [Source.row_mk] at c2
   simp only [tt, seval, tkT, tkF, muT, muF, h3]
   refine CallQ.intro (c2) ?_ ?_ ?_
   ·decide
   ·simp only [tt, seval, PB, h3, told, Val.row, List.cons_append, List.nil_append]
   rintro r os ⟨rfl, rfl⟩ hos
   simp only [tt, seval, PB, h3, told, Val.row, List.cons_append, List.nil_append]
   refine ⟨by kernel_rfl, ⟨by simp only [maxLen]; omega, by omega⟩, ?_⟩
   refine ⟨[.ren 16 31], by decide, by decide, ?_⟩
   try simp only [tt, seval, h3]
   refine ⟨[(9000, .str (PB L w)), (31, .arr 124 ((l ++ [Source.mk tb2 sa2 on2])).length (((l ++ [Source.mk tb2 sa2 on2])).flatMap Source.row) (some (Fl)))], some Pl, by simp only [Item.row_mk, Source.row_mk, SortKey.row_mk, bae, PB, mLit, mCol, mKids, mUn, mBin, zExpr, zVal, z0, Expr.row_mk, Query.row_mk, List.flatMap_nil, List.flatMap_cons, List.append_nil, List.length_nil, List.length_cons, Val.row, List.cons_append, List.nil_append, List.flatMap_append, List.length_append]; exact SubO.cons rfl (SubO.cons rfl (SubO.nil _)), PoSub.refl _, ⟨l ++ [Source.mk tb2 sa2 on2], w, n, Fl, Pl, by simp only [tt, seval, h3, List.length_append, List.length_cons, List.length_nil], hm, hw, by simp; omega, hsb, rfl, rfl⟩, ?_⟩
   show L.length - ((w.a : Int)).toNat < L.length - ((v.a : Int)).toNat
   omega
  | false =>
   rw [if_neg (by rw [c44]; simp)] at hm
   simp only [tt, seval, tkT, tkF, muT, muF, Bool.false_eq_true, h3]
   refine CallQ.intro (ptakeKey_d L hL hT v 4 ⟨#[74, 79, 73, 78]⟩ (by kernel_rfl) hv) ?_ ?_ ?_
   ·decide
   ·simp only [tt, seval, PB, h3]
   rintro r os ⟨rfl, rfl⟩ hos
   simp only [tt, seval, PB, h3]
   cases k4 : isKey L v 4 with
   | true =>
    rw [if_pos k4] at hm
    simp only at hm
    split at hm
    ·cases hm
    rename_i e7 s7 he7
    have hav := adv_le (L := L) (isKey_lt k4)
    have hlt := (isKey_lt k4).2
    have c2 := psource_d L hL hT (adv v) hav
    have o2 := Ok.sourceM (L := L) (adv v)
    have o2a : v.a + 1 ≤ (sourceM L (adv v)).2.a := o2.1
    have hw := o2.2.1 hav
    generalize (sourceM L (adv v)).2 = w at *
    generalize (sourceM L (adv v)).1 = sr2 at *
    obtain ⟨tb2, sa2, on2⟩ := sr2
    rw [Source.row_mk] at c2
    simp only [tt, seval, tkT, tkF, muT, muF, h3]
    refine CallQ.intro (c2) ?_ ?_ ?_
    ·decide
    ·simp only [tt, seval, PB, h3, told, Val.row, List.cons_append, List.nil_append]
    rintro r os ⟨rfl, rfl⟩ hos
    simp only [tt, seval, PB, h3, told, Val.row, List.cons_append, List.nil_append]
    refine CallQ.intro (pmustKey_d L hL hT w 5 ⟨#[79, 78]⟩ (by kernel_rfl) hw) ?_ ?_ ?_
    ·decide
    ·simp only [tt, seval, PB, h3]
    rintro r os ⟨rfl, rfl⟩ hos
    simp only [tt, seval, PB, h3]
    have o7 : Ok L w (must (isKey L w 5) w) := Ok.must fun h => isKey_lt h
    have o7a := o7.1
    have hw7 := o7.2.1 hw
    generalize must (isKey L w 5) w = w7 at *
    have o8 := ok 1 _ _ _ he7
    have o8a := o8.1
    have hs7 := o8.2.1 hw7
    obtain ⟨k7, p7, n7, x7, q7, m7, ks7, ss7⟩ := e7
    have c7 := hf1 _ _ _ he7 hw7
    rw [Expr.row_mk] at c7
    refine CallQ.intro (c7) ?_ ?_ ?_
    ·decide
    ·simp only [tt, seval, PB, h3, told, Val.row, List.cons_append, List.nil_append]
    rintro r os ⟨⟨Fk, Fs, rfl⟩, rfl⟩ hos
    simp only [tt, seval, PB, h3, told, Val.row, List.cons_append, List.nil_append]
    refine fun G => ?_
    refine ⟨by kernel_rfl, ⟨by simp only [maxLen]; omega, by omega⟩, ?_⟩
    refine ⟨[], ?_⟩
    try simp only [tt, seval, h3]
    refine ⟨[(9000, .str (PB L s7)), (31, .arr 124 ((l ++ [Source.mk tb2 sa2 [(Expr.mk k7 p7 n7 x7 q7 m7 ks7 ss7)]])).length (((l ++ [Source.mk tb2 sa2 [(Expr.mk k7 p7 n7 x7 q7 m7 ks7 ss7)]])).flatMap Source.row) (some (Fl ++ (G :: (Fk ++ Fs)))))], some (G :: (Pl ++ (Fk ++ Fs))), by simp only [Item.row_mk, Source.row_mk, SortKey.row_mk, bae, PB, mLit, mCol, mKids, mUn, mBin, zExpr, zVal, z0, Expr.row_mk, Query.row_mk, List.flatMap_nil, List.flatMap_cons, List.append_nil, List.length_nil, List.length_cons, Val.row, List.cons_append, List.nil_append, List.flatMap_append, List.length_append]; exact SubO.cons rfl (SubO.cons rfl (SubO.nil _)), PoSub.refl _, ⟨l ++ [Source.mk tb2 sa2 [(Expr.mk k7 p7 n7 x7 q7 m7 ks7 ss7)]], s7, n, _, _, by simp only [tt, seval, h3, List.length_append, List.length_cons, List.length_nil], hm, hs7, by simp; omega, fun x => by have := hsb x; simp only [List.flatten_append, List.flatten_cons, List.flatten_nil, List.count_append, List.append_nil, List.nil_append, List.count_nil] at this ⊢; omega, rfl, rfl⟩, ?_⟩
    show L.length - ((s7.a : Int)).toNat < L.length - ((v.a : Int)).toNat
    omega
   | false =>
    rw [if_neg (by rw [k4]; simp)] at hm
    injection hm with hm; injection hm with e1 e2; subst e1 e2
    simp only [tt, seval, tkT, tkF, muT, muF, Bool.false_eq_true, h3]
    refine ⟨.c (.ow 124 l.length (l.flatMap Source.row) (some Fl)), [PB L v], ⟨⟨_, rfl⟩, rfl⟩, endOk ?_⟩
    simp only [tt, seval, PB]
    exact hsb
set_option maxHeartbeats 16000000 in
theorem pquery_step (L : List Tok) (hL : L.length ≤ 1048576) (hT : ∀ t ∈ L, t.text.size ≤ 1048576) {f : Nat → PM Expr} (ok : ∀ lv, OkM (L := L) (f lv)) (hf1 : TpE L 42 (f 1)) : TpQ L 54 (stepQ L f) := by
 intro s x s' h ha
 unfold stepQ at h
 simp only at h
 refine cl_of_d follows_mixed true Tryz.func54 rfl (by kernel_rfl) ?_
 simp only [Tryz.f54, tt, seval]
 refine CallQ.intro (pmustKey_d L hL hT s 1 ⟨#[83, 69, 76, 69, 67, 84]⟩ (by kernel_rfl) ha) ?_ ?_ ?_
 ·decide
 ·simp only [tt, seval, PB]
 rintro r os ⟨rfl, rfl⟩ hos
 simp only [tt, seval, PB]
 have o1 : Ok L s (must (isKey L s 1) s) := Ok.must fun h => isKey_lt h
 have ha1 := o1.2.1 ha
 generalize must (isKey L s 1) s = u1 at *
 refine CallQ.intro (ptakeKey_d L hL hT u1 2 ⟨#[68, 73, 83, 84, 73, 78, 67, 84]⟩ (by kernel_rfl) ha1) ?_ ?_ ?_
 ·decide
 ·simp only [tt, seval, PB]
 rintro r os ⟨rfl, rfl⟩ hos
 simp only [tt, seval, PB]
 have o2 : Ok L u1 (tkIf (isKey L u1 2) u1) := Ok.tkIf fun h => isKey_lt h
 have ha2 := o2.2.1 ha1
 generalize tkIf (isKey L u1 2) u1 = u2 at *
 generalize isKey L u1 2 = dist at *
 split at h
 ·cases h
 rename_i its u3 hits
 unfold itemsM at hits
 split at hits
 ·cases hits
 rename_i it1 v1 hit1
 have c1 := pitem_step L hL hT ok hf1 _ _ _ hit1 ha2
 obtain ⟨star1, qual1, ⟨k1, p1, n1, w1, q1, m1, ks1, ss1⟩, as1⟩ := it1
 rw [Item.row_mk, Expr.row_mk] at c1
 have hav1 := (OkM.item ok _ _ _ hit1).2.1 ha2
 refine CallQ.intro (c1) ?_ ?_ ?_
 ·decide
 ·simp only [tt, seval, PB, told, Val.row, List.cons_append, List.nil_append]
 rintro r os ⟨⟨F0, F1, rfl⟩, rfl⟩ hos
 simp only [tt, seval, PB, told, Val.row, List.cons_append, List.nil_append]
 refine dLoop.gh [.ren 11 20] ⟨by decide, by decide, ?_⟩
 refine dLoop0.intro (fun f' Lo p => ∃ (m : List Item) (v : PS) (n : Nat) (Fm Pl : List (List Nat)), sepM L (itemM L f) n m v = some (its, u3) ∧ v.a ≤ L.length ∧ m.length ≤ v.a + 1 ∧ Sb Fm.flatten Pl.flatten ∧ Lo = [(9000, .str (PB L v)), (3, .str [.v (.bool dist), .s 20 (m).length, .v (.slice none 0 0), .v (.slice none 0 0), .v (.slice none 0 0), .v (.int .i64 (-1))]), (20, .arr 121 (m).length ((m).flatMap Item.row) (some (Fm))), (2, .str [.v (.bool false), .v (.slice none 0 0), .v (.slice none 0 0), .v (.slice none 0 0), .v (.slice none 0 0), .v (.int .i64 0)])] ∧ p = some Pl) (fun _ Lo _ => L.length - atS Lo) [(9000, .str (PB L v1)), (3, .str [.v (.bool dist), .s 20 ([(Item.mk star1 qual1 (Expr.mk k1 p1 n1 w1 q1 m1 ks1 ss1) as1)]).length, .v (.slice none 0 0), .v (.slice none 0 0), .v (.slice none 0 0), .v (.int .i64 (-1))]), (20, .arr 121 ([(Item.mk star1 qual1 (Expr.mk k1 p1 n1 w1 q1 m1 ks1 ss1) as1)]).length (([(Item.mk star1 qual1 (Expr.mk k1 p1 n1 w1 q1 m1 ks1 ss1) as1)]).flatMap Item.row) (some (F0 ++ F1))), (2, .str [.v (.bool false), .v (.slice none 0 0), .v (.slice none 0 0), .v (.slice none 0 0), .v (.slice none 0 0), .v (.int .i64 0)])] (some (F0 ++ F1)) ⟨by simp only [Item.row_mk, Source.row_mk, SortKey.row_mk, bae, PB, mLit, mCol, mKids, mUn, mBin, zExpr, zVal, z0, Expr.row_mk, Query.row_mk, List.flatMap_nil, List.flatMap_cons, List.append_nil, List.length_nil, List.length_cons, Val.row, List.cons_append, List.nil_append, List.flatMap_append, List.length_append]; exact SubO.cons rfl (SubO.cons rfl (SubO.cons rfl (SubO.cons rfl (SubO.nil _)))), PoSub.refl _, ?_⟩ ?_
 ·simp only [tt, seval]
  exact ⟨[(Item.mk star1 qual1 (Expr.mk k1 p1 n1 w1 q1 m1 ks1 ss1) as1)], v1, L.length + 1, F0 ++ F1, F0 ++ F1, hits, hav1, by simp, Sb.refl _, rfl, rfl⟩
 ·rintro g' Lo p ⟨m, v, n, Fm, Pl, hm, hv, hml, hsb, rfl, rfl⟩
  try simp only [tt, seval]
  refine CallQ.intro (ptakeSign_d L hL hT v 44 hv) ?_ ?_ ?_
  ·decide
  ·simp only [tt, seval, PB]
  rintro r os ⟨rfl, rfl⟩ hos
  simp only [tt, seval, PB]
  cases n with
  | zero => cases hm
  | succ n =>
  rw [sepM] at hm
  cases c44 : isSg L v 44 with
  | true =>
   rw [if_pos c44] at hm
   split at hm
   ·cases hm
   rename_i z w hz
   have hlt := (isSg_lt c44).2
   have hav := adv_le (L := L) (isSg_lt c44)
   have o3 := OkM.item ok _ _ _ hz
   have o3a : v.a + 1 ≤ w.a := o3.1
   have hw := o3.2.1 hav
   have c2 := pitem_step L hL hT ok hf1 _ _ _ hz hav
   obtain ⟨star2, qual2, ⟨k2, p2, n2, w2, q2, m2, ks2, ss2⟩, as2⟩ := z
   rw [Item.row_mk, Expr.row_mk] at c2
   simp only [tt, seval, tkT, tkF, muT, muF]
   refine dDrawn.intro [18] (.take 0 (.take 2 (.br 1 (.br 3 (.br 4 (.br 5 (.take 6 (.br 7 .done .nobr)) .nobr) .nobr) .nobr) (.br 3 (.take 1 (.br 4 (.br 5 (.take 6 (.br 7 .done .nobr)) .nobr) .nobr)) .nobr)))) (by kernel_rfl) ?_
   simp only [tt, seval]
   all_goals repeat' first | refine brC ?_ ?_ | refine brC2 ?_ ?_
   all_goals
    refine CallQ.intro (c2) ?_ ?_ ?_
    ·decide
    ·simp only [tt, seval, PB, told, Val.row, List.cons_append, List.nil_append]
     try decide
    rintro r os ⟨⟨F0, F1, rfl⟩, rfl⟩ hos
    simp only [tt, seval, PB, told, Val.row, List.cons_append, List.nil_append]
   all_goals repeat' first | refine brA ?_ ?_ | refine brA2 ?_ ?_ | refine brA3 ?_ ?_
   all_goals
    refine ⟨by kernel_rfl, ⟨by simp only [maxLen]; omega, by omega⟩, ?_⟩
    try simp only [tt, seval]
   all_goals
    refine ⟨[(9000, .str (PB L w)), (3, .str [.v (.bool dist), .s 20 ((m ++ [(Item.mk star2 qual2 (Expr.mk k2 p2 n2 w2 q2 m2 ks2 ss2) as2)])).length, .v (.slice none 0 0), .v (.slice none 0 0), .v (.slice none 0 0), .v (.int .i64 (-1))]), (20, .arr 121 ((m ++ [(Item.mk star2 qual2 (Expr.mk k2 p2 n2 w2 q2 m2 ks2 ss2) as2)])).length (((m ++ [(Item.mk star2 qual2 (Expr.mk k2 p2 n2 w2 q2 m2 ks2 ss2) as2)])).flatMap Item.row) (some (Fm ++ (F0 ++ F1)))), (2, .str [.v (.bool false), .v (.slice none 0 0), .v (.slice none 0 0), .v (.slice none 0 0), .v (.slice none 0 0), .v (.int .i64 0)])], some (Pl ++ (F0 ++ F1)), by simp only [Item.row_mk, Source.row_mk, SortKey.row_mk, bae, PB, mLit, mCol, mKids, mUn, mBin, zExpr, zVal, z0, Expr.row_mk, Query.row_mk, List.flatMap_nil, List.flatMap_cons, List.append_nil, List.length_nil, List.length_cons, Val.row, List.cons_append, List.nil_append, List.flatMap_append, List.length_append]; exact SubO.cons rfl (SubO.cons rfl (SubO.cons rfl (SubO.cons rfl (SubO.nil _)))), PoSub.refl _, ⟨m ++ [(Item.mk star2 qual2 (Expr.mk k2 p2 n2 w2 q2 m2 ks2 ss2) as2)], w, n, _, _, hm, hw, by simp; omega, by simp only [List.flatten_append]; exact hsb.append (Sb.refl _), rfl, rfl⟩, ?_⟩
    show L.length - ((w.a : Int)).toNat < L.length - ((v.a : Int)).toNat
    omega
  | false =>
   rw [if_neg (by rw [c44]; simp)] at hm
   injection hm with hm; injection hm with e1 e2; subst e1 e2
   simp only [tt, seval, tkT, tkF, muT, muF, Bool.false_eq_true]
   refine CallQ.intro (pmustKey_d L hL hT v 3 ⟨#[70, 82, 79, 77]⟩ (by kernel_rfl) hv) ?_ ?_ ?_
   ·decide
   ·simp only [tt, seval, PB]
   rintro r os ⟨rfl, rfl⟩ hos
   simp only [tt, seval, PB]
   have o4 : Ok L v (must (isKey L v 3) v) := Ok.must fun h => isKey_lt h
   have ha4 := o4.2.1 hv
   generalize must (isKey L v 3) v = u4 at *
   split at h
   ·cases h
   rename_i frs s4 hfrs
   have cf := psources_step L hL hT ok hf1 u4 _ _ hfrs ha4
   have hs4 := (OkM.sources ok _ _ _ _ _ hfrs).2.1 ((Ok.sourceM (L := L) u4).2.1 ha4)
   refine CallQ.intro (cf) ?_ ?_ ?_
   ·decide
   ·simp only [tt, seval, PB]
   rintro r os ⟨⟨Fr, rfl⟩, rfl⟩ hos
   simp only [tt, seval, PB]
   split at h
   ·cases h
   rename_i wh s5 hwh
   have hs5 := (OkM.wher ok _ _ _ hwh).2.1 hs4
   have cw := pwhere_step L hL hT hf1 _ _ _ hwh hs4
   refine CallQ.intro (cw) ?_ ?_ ?_
   ·decide
   ·simp only [tt, seval, PB]
   rintro r os ⟨⟨Fw, rfl⟩, rfl⟩ hos
   simp only [tt, seval, PB]
   refine CallQ.intro (ptakeKey_d L hL hT s5 7 ⟨#[79, 82, 68, 69, 82]⟩ (by kernel_rfl) hs5) ?_ ?_ ?_
   ·decide
   ·simp only [tt, seval, PB]
   rintro r os ⟨rfl, rfl⟩ hos
   simp only [tt, seval, PB]
   split at h
   ·cases h
   rename_i ord s6 hord
   unfold orderM at hord
   cases c7 : isKey L s5 7 with
   | false =>
    rw [if_neg (by rw [c7]; simp)] at hord
    injection hord with hord; injection hord with e1 e2; subst e1 e2
    simp only [tt, seval, tkT, tkF, muT, muF, Bool.false_eq_true]
    refine CallQ.intro (ptakeKey_d L hL hT s5 11 ⟨#[76, 73, 77, 73, 84]⟩ (by kernel_rfl) hs5) ?_ ?_ ?_
    ·decide
    ·simp only [tt, seval, PB]
    rintro r os ⟨rfl, rfl⟩ hos
    simp only [tt, seval, PB]
    cases c11 : isKey L s5 11 with
    | true =>
     have hlim : limitM L s5 = mNum L (adv s5) := by rw [limitM, if_pos c11]
     rw [hlim] at h
     injection h with h; injection h with h1 h2; subst h1 h2
     simp only [tt, seval, tkT, tkF, muT, muF]
     refine CallQ.intro (pmustNumber_d L hL hT (adv s5) (adv_le (isKey_lt c11))) ?_ ?_ ?_
     ·decide
     ·simp only [tt, seval, PB]
     rintro r os ⟨rfl, rfl⟩ hos
     simp only [tt, seval, PB]
     generalize (mNum L (adv s5)).1 = xn at *
     generalize (mNum L (adv s5)).2 = sn at *
     refine fun G0 G1 G2 => ?_
     refine ⟨.ag (told (Query.mk dist m frs wh ([] : List SortKey) xn).row [G0 :: Fm, G1 :: Fr, G2 :: Fw, []]), [PB L (sn)], ⟨⟨G0 :: Fm, G1 :: Fr, G2 :: Fw, [], by first | rfl | simp only [Item.row_mk, Source.row_mk, SortKey.row_mk, bae, PB, mLit, mCol, mKids, mUn, mBin, zExpr, zVal, z0, Expr.row_mk, Query.row_mk, List.flatMap_nil, List.flatMap_cons, List.append_nil, List.length_nil, List.length_cons, told, Val.row, List.cons_append, List.nil_append]⟩, rfl⟩, endOk ?_⟩
     simp only [tt, seval, Item.row_mk, Source.row_mk, SortKey.row_mk, bae, PB, mLit, mCol, mKids, mUn, mBin, zExpr, zVal, z0, Expr.row_mk, Query.row_mk, List.flatMap_nil, List.flatMap_cons, List.append_nil, List.length_nil, List.length_cons, told, Val.row, List.cons_append, List.nil_append]
     exact fun x => by have := hsb x; simp only [List.flatten_append, List.flatten_cons, List.flatten_nil, List.count_append, List.append_nil, List.nil_append, List.count_nil] at this ⊢; omega
    | false =>
     have hlim : limitM L s5 = (-1, s5) := by rw [limitM, if_neg (by rw [c11]; simp)]
     rw [hlim] at h
     injection h with h; injection h with h1 h2; subst h1 h2
     simp only [tt, seval, tkT, tkF, muT, muF, Bool.false_eq_true]
     refine fun G0 G1 G2 => ?_
     refine ⟨.ag (told (Query.mk dist m frs wh ([] : List SortKey) (-1)).row [G0 :: Fm, G1 :: Fr, G2 :: Fw, []]), [PB L (s5)], ⟨⟨G0 :: Fm, G1 :: Fr, G2 :: Fw, [], by first | rfl | simp only [Item.row_mk, Source.row_mk, SortKey.row_mk, bae, PB, mLit, mCol, mKids, mUn, mBin, zExpr, zVal, z0, Expr.row_mk, Query.row_mk, List.flatMap_nil, List.flatMap_cons, List.append_nil, List.length_nil, List.length_cons, told, Val.row, List.cons_append, List.nil_append]⟩, rfl⟩, endOk ?_⟩
     simp only [tt, seval, Item.row_mk, Source.row_mk, SortKey.row_mk, bae, PB, mLit, mCol, mKids, mUn, mBin, zExpr, zVal, z0, Expr.row_mk, Query.row_mk, List.flatMap_nil, List.flatMap_cons, List.append_nil, List.length_nil, List.length_cons, told, Val.row, List.cons_append, List.nil_append]
     exact fun x => by have := hsb x; simp only [List.flatten_append, List.flatten_cons, List.flatten_nil, List.count_append, List.append_nil, List.nil_append, List.count_nil] at this ⊢; omega
   | true =>
    rw [if_pos c7] at hord
    simp only at hord
    split at hord
    ·cases hord
    rename_i z1 y1 hz1
    simp only [tt, seval, tkT, tkF, muT, muF]
    have hav5 := adv_le (L := L) (isKey_lt c7)
    refine CallQ.intro (pmustKey_d L hL hT (adv s5) 8 ⟨#[66, 89]⟩ (by kernel_rfl) hav5) ?_ ?_ ?_
    ·decide
    ·simp only [tt, seval, PB]
    rintro r os ⟨rfl, rfl⟩ hos
    simp only [tt, seval, PB]
    have o9 : Ok L (adv s5) (must (isKey L (adv s5) 8) (adv s5)) := Ok.must fun h => isKey_lt h
    have hu9 := o9.2.1 hav5
    generalize must (isKey L (adv s5) 8) (adv s5) = u9 at *
    have c9 := pkey_step L hL hT ok hf1 _ _ _ hz1 hu9
    have hy1 := (OkM.sort ok _ _ _ hz1).2.1 hu9
    obtain ⟨⟨k9, p9, n9, x9, q9, m9, ks9, ss9⟩, de9⟩ := z1
    rw [SortKey.row_mk, Expr.row_mk] at c9
    refine CallQ.intro (c9) ?_ ?_ ?_
    ·decide
    ·simp only [tt, seval, PB, told, Val.row, List.cons_append, List.nil_append]
    rintro r os ⟨⟨H0, H1, rfl⟩, rfl⟩ hos
    simp only [tt, seval, PB, told, Val.row, List.cons_append, List.nil_append]
    refine dLoop.gh [.ren 36 45] ⟨by decide, by decide, ?_⟩
    refine dLoop0.intro (fun f' Lo p => ∃ (l9 : List SortKey) (v9 : PS) (n9' : Nat) (Fo Pl9 : List (List Nat)), sepM L (sortM L f) n9' l9 v9 = some (ord, s6) ∧ v9.a ≤ L.length ∧ l9.length ≤ v9.a + 1 ∧ Sb (Fm ++ (Fr ++ (Fw ++ Fo))).flatten Pl9.flatten ∧ Lo = [(9000, .str (PB L v9)), (3, .str [.v (.bool dist), .s 20 m.length, .s 10025 frs.length, .s 10028 wh.length, .s 45 (l9).length, .v (.int .i64 (-1))]), (20, .arr 121 m.length (m.flatMap Item.row) (some Fm)), (10025, .arr 124 frs.length (frs.flatMap Source.row) (some Fr)), (10028, .arr 29 wh.length (wh.flatMap Expr.row) (some Fw)), (45, .arr 128 (l9).length ((l9).flatMap SortKey.row) (some (Fo))), (2, .str [.v (.bool false), .v (.slice none 0 0), .v (.slice none 0 0), .v (.slice none 0 0), .v (.slice none 0 0), .v (.int .i64 0)])] ∧ p = some Pl9) (fun _ Lo _ => L.length - atS Lo) [(9000, .str (PB L y1)), (3, .str [.v (.bool dist), .s 20 m.length, .s 10025 frs.length, .s 10028 wh.length, .s 45 ([(SortKey.mk (Expr.mk k9 p9 n9 x9 q9 m9 ks9 ss9) de9)]).length, .v (.int .i64 (-1))]), (20, .arr 121 m.length (m.flatMap Item.row) (some Fm)), (10025, .arr 124 frs.length (frs.flatMap Source.row) (some Fr)), (10028, .arr 29 wh.length (wh.flatMap Expr.row) (some Fw)), (45, .arr 128 ([(SortKey.mk (Expr.mk k9 p9 n9 x9 q9 m9 ks9 ss9) de9)]).length (([(SortKey.mk (Expr.mk k9 p9 n9 x9 q9 m9 ks9 ss9) de9)]).flatMap SortKey.row) (some (H0 ++ H1))), (2, .str [.v (.bool false), .v (.slice none 0 0), .v (.slice none 0 0), .v (.slice none 0 0), .v (.slice none 0 0), .v (.int .i64 0)])] (some (Pl ++ Fr ++ Fw ++ (H0 ++ H1))) ⟨by simp only [Item.row_mk, Source.row_mk, SortKey.row_mk, bae, PB, mLit, mCol, mKids, mUn, mBin, zExpr, zVal, z0, Expr.row_mk, Query.row_mk, List.flatMap_nil, List.flatMap_cons, List.append_nil, List.length_nil, List.length_cons, Val.row, List.cons_append, List.nil_append, List.flatMap_append, List.length_append]; exact SubO.cons rfl (SubO.cons rfl (SubO.cons rfl (SubO.cons rfl (SubO.cons rfl (SubO.cons rfl (SubO.cons rfl (SubO.nil _))))))), PoSub.refl _, ?_⟩ ?_
    ·simp only [tt, seval]
     exact ⟨[(SortKey.mk (Expr.mk k9 p9 n9 x9 q9 m9 ks9 ss9) de9)], y1, L.length + 1, H0 ++ H1, _, hord, hy1, by simp, fun x => by have := hsb x; simp only [List.flatten_append, List.flatten_cons, List.flatten_nil, List.count_append, List.append_nil, List.nil_append, List.count_nil] at this ⊢; omega, rfl, rfl⟩
    ·rintro g3 Lo p ⟨l9, v9, n9', Fo, Pl9, hm9, hv9, hml9, hsb9, rfl, rfl⟩
     try simp only [tt, seval]
     refine CallQ.intro (ptakeSign_d L hL hT v9 44 hv9) ?_ ?_ ?_
     ·decide
     ·simp only [tt, seval, PB]
     rintro r os ⟨rfl, rfl⟩ hos
     simp only [tt, seval, PB]
     cases n9' with
     | zero => cases hm9
     | succ n9' =>
     rw [sepM] at hm9
     cases c44 : isSg L v9 44 with
     | true =>
      rw [if_pos c44] at hm9
      split at hm9
      ·cases hm9
      rename_i za wa hza
      have hlt9 := (isSg_lt c44).2
      have hav9 := adv_le (L := L) (isSg_lt c44)
      have oa := OkM.sort ok _ _ _ hza
      have oaa : v9.a + 1 ≤ wa.a := oa.1
      have hwa := oa.2.1 hav9
      have ca := pkey_step L hL hT ok hf1 _ _ _ hza hav9
      obtain ⟨⟨ka, pa, na, xa, qa, ma, ksa, ssa⟩, dea⟩ := za
      rw [SortKey.row_mk, Expr.row_mk] at ca
      simp only [tt, seval, tkT, tkF, muT, muF]
      refine dDrawn.intro [43] (.take 0 (.take 2 (.br 1 (.br 3 (.br 4 (.br 5 (.take 6 (.br 7 .done .nobr)) .nobr) .nobr) .nobr) (.br 3 (.take 1 (.br 4 (.br 5 (.take 6 (.br 7 .done .nobr)) .nobr) .nobr)) .nobr)))) (by kernel_rfl) ?_
      simp only [tt, seval]
      all_goals repeat' first | refine brC ?_ ?_ | refine brC2 ?_ ?_
      all_goals
       refine CallQ.intro (ca) ?_ ?_ ?_
       ·decide
       ·simp only [tt, seval, PB, told, Val.row, List.cons_append, List.nil_append]
        try decide
       rintro r os ⟨⟨F0, F1, rfl⟩, rfl⟩ hos
       simp only [tt, seval, PB, told, Val.row, List.cons_append, List.nil_append]
      all_goals repeat' first | refine brA ?_ ?_ | refine brA2 ?_ ?_ | refine brA3 ?_ ?_
      all_goals
       refine ⟨by kernel_rfl, ⟨by simp only [maxLen]; omega, by omega⟩, ?_⟩
       try simp only [tt, seval]
      all_goals
       refine ⟨[(9000, .str (PB L wa)), (3, .str [.v (.bool dist), .s 20 m.length, .s 10025 frs.length, .s 10028 wh.length, .s 45 ((l9 ++ [(SortKey.mk (Expr.mk ka pa na xa qa ma ksa ssa) dea)])).length, .v (.int .i64 (-1))]), (20, .arr 121 m.length (m.flatMap Item.row) (some Fm)), (10025, .arr 124 frs.length (frs.flatMap Source.row) (some Fr)), (10028, .arr 29 wh.length (wh.flatMap Expr.row) (some Fw)), (45, .arr 128 ((l9 ++ [(SortKey.mk (Expr.mk ka pa na xa qa ma ksa ssa) dea)])).length (((l9 ++ [(SortKey.mk (Expr.mk ka pa na xa qa ma ksa ssa) dea)])).flatMap SortKey.row) (some (Fo ++ (F0 ++ F1)))), (2, .str [.v (.bool false), .v (.slice none 0 0), .v (.slice none 0 0), .v (.slice none 0 0), .v (.slice none 0 0), .v (.int .i64 0)])], some (Pl9 ++ (F0 ++ F1)), by simp only [Item.row_mk, Source.row_mk, SortKey.row_mk, bae, PB, mLit, mCol, mKids, mUn, mBin, zExpr, zVal, z0, Expr.row_mk, Query.row_mk, List.flatMap_nil, List.flatMap_cons, List.append_nil, List.length_nil, List.length_cons, Val.row, List.cons_append, List.nil_append, List.flatMap_append, List.length_append]; exact SubO.cons rfl (SubO.cons rfl (SubO.cons rfl (SubO.cons rfl (SubO.cons rfl (SubO.cons rfl (SubO.cons rfl (SubO.nil _))))))), PoSub.refl _, ⟨l9 ++ [(SortKey.mk (Expr.mk ka pa na xa qa ma ksa ssa) dea)], wa, n9', _, _, hm9, hwa, by simp; omega, fun x => by have := hsb9 x; simp only [List.flatten_append, List.flatten_cons, List.flatten_nil, List.count_append, List.append_nil, List.nil_append, List.count_nil] at this ⊢; omega, rfl, rfl⟩, ?_⟩
       show L.length - ((wa.a : Int)).toNat < L.length - ((v9.a : Int)).toNat
       omega
     | false =>
      rw [if_neg (by rw [c44]; simp)] at hm9
      injection hm9 with hm9; injection hm9 with e1 e2; subst e1 e2
      simp only [tt, seval, tkT, tkF, muT, muF, Bool.false_eq_true]
      refine CallQ.intro (ptakeKey_d L hL hT v9 11 ⟨#[76, 73, 77, 73, 84]⟩ (by kernel_rfl) hv9) ?_ ?_ ?_
      ·decide
      ·simp only [tt, seval, PB]
      rintro r os ⟨rfl, rfl⟩ hos
      simp only [tt, seval, PB]
      cases c11 : isKey L v9 11 with
      | true =>
       have hlim : limitM L v9 = mNum L (adv v9) := by rw [limitM, if_pos c11]
       rw [hlim] at h
       injection h with h; injection h with h1 h2; subst h1 h2
       simp only [tt, seval, tkT, tkF, muT, muF]
       refine CallQ.intro (pmustNumber_d L hL hT (adv v9) (adv_le (isKey_lt c11))) ?_ ?_ ?_
       ·decide
       ·simp only [tt, seval, PB]
       rintro r os ⟨rfl, rfl⟩ hos
       simp only [tt, seval, PB]
       generalize (mNum L (adv v9)).1 = xn at *
       generalize (mNum L (adv v9)).2 = sn at *
       refine fun G0 G1 G2 G3 => ?_
       refine ⟨.ag (told (Query.mk dist m frs wh l9 xn).row [G0 :: Fm, G1 :: Fr, G2 :: Fw, G3 :: Fo]), [PB L (sn)], ⟨⟨G0 :: Fm, G1 :: Fr, G2 :: Fw, G3 :: Fo, by first | rfl | simp only [Item.row_mk, Source.row_mk, SortKey.row_mk, bae, PB, mLit, mCol, mKids, mUn, mBin, zExpr, zVal, z0, Expr.row_mk, Query.row_mk, List.flatMap_nil, List.flatMap_cons, List.append_nil, List.length_nil, List.length_cons, told, Val.row, List.cons_append, List.nil_append]⟩, rfl⟩, endOk ?_⟩
       simp only [tt, seval, Item.row_mk, Source.row_mk, SortKey.row_mk, bae, PB, mLit, mCol, mKids, mUn, mBin, zExpr, zVal, z0, Expr.row_mk, Query.row_mk, List.flatMap_nil, List.flatMap_cons, List.append_nil, List.length_nil, List.length_cons, told, Val.row, List.cons_append, List.nil_append]
       exact fun x => by have := hsb9 x; simp only [List.flatten_append, List.flatten_cons, List.flatten_nil, List.count_append, List.append_nil, List.nil_append, List.count_nil] at this ⊢; omega
      | false =>
       have hlim : limitM L v9 = (-1, v9) := by rw [limitM, if_neg (by rw [c11]; simp)]
       rw [hlim] at h
       injection h with h; injection h with h1 h2; subst h1 h2
       simp only [tt, seval, tkT, tkF, muT, muF, Bool.false_eq_true]
       refine fun G0 G1 G2 G3 => ?_
       refine ⟨.ag (told (Query.mk dist m frs wh l9 (-1)).row [G0 :: Fm, G1 :: Fr, G2 :: Fw, G3 :: Fo]), [PB L (v9)], ⟨⟨G0 :: Fm, G1 :: Fr, G2 :: Fw, G3 :: Fo, by first | rfl | simp only [Item.row_mk, Source.row_mk, SortKey.row_mk, bae, PB, mLit, mCol, mKids, mUn, mBin, zExpr, zVal, z0, Expr.row_mk, Query.row_mk, List.flatMap_nil, List.flatMap_cons, List.append_nil, List.length_nil, List.length_cons, told, Val.row, List.cons_append, List.nil_append]⟩, rfl⟩, endOk ?_⟩
       simp only [tt, seval, Item.row_mk, Source.row_mk, SortKey.row_mk, bae, PB, mLit, mCol, mKids, mUn, mBin, zExpr, zVal, z0, Expr.row_mk, Query.row_mk, List.flatMap_nil, List.flatMap_cons, List.append_nil, List.length_nil, List.length_cons, told, Val.row, List.cons_append, List.nil_append]
       exact fun x => by have := hsb9 x; simp only [List.flatten_append, List.flatten_cons, List.flatten_nil, List.count_append, List.append_nil, List.nil_append, List.count_nil] at this ⊢; omega
theorem implP (L : List Tok) (hL : L.length ≤ 1048576) (hT : ∀ t ∈ L, t.text.size ≤ 1048576) : ∀ k, TpE L 42 ((pP L k).1 1) ∧ TpE L 93 ((pP L k).1 2) ∧ TpE L 160 ((pP L k).1 3) ∧ TpE L 223 ((pP L k).1 4) ∧ TpE L 266 ((pP L k).1 5) ∧ TpE L 303 ((pP L k).1 6) ∧ TpE L 325 ((pP L k).1 7) ∧ TpE L 337 ((pP L k).1 8) ∧ TpE L 348 ((pP L k).1 9) ∧ TpQ L 54 (pP L k).2
 | 0 => ⟨fun _ _ _ h => (by cases h), fun _ _ _ h => (by cases h), fun _ _ _ h => (by cases h), fun _ _ _ h => (by cases h), fun _ _ _ h => (by cases h), fun _ _ _ h => (by cases h), fun _ _ _ h => (by cases h), fun _ _ _ h => (by cases h), fun _ _ _ h => (by cases h), fun _ _ _ h => (by cases h)⟩
 | k + 1 => by
  obtain ⟨h0, h1, h2, h3, h4, h5, h6, h7, h8, hq⟩ := implP L hL hT k
  obtain ⟨ok, okq⟩ := pP_ok (L := L) k
  have e9 : (pP L (k + 1)).1 9 = primM L (pP L k).1 (pP L k).2 := rfl
  refine ⟨?_, ?_, ?_, ?_, ?_, ?_, ?_, ?_, ?_, pquery_step L hL hT ok h0⟩
  ·show TpE L _ (stepE L (pP L k).1 (pP L k).2 1); exact por_step L hL hT (ok 2) h1
  ·show TpE L _ (stepE L (pP L k).1 (pP L k).2 2); exact pand_step L hL hT (ok 3) h2
  ·show TpE L _ (stepE L (pP L k).1 (pP L k).2 3); exact pnot_step L hL hT h2 h3
  ·show TpE L _ (stepE L (pP L k).1 (pP L k).2 4); exact pcmp_step L hL hT ok okq h0 h4 hq
  ·show TpE L _ (stepE L (pP L k).1 (pP L k).2 5); exact pcat_step L hL hT (ok 6) h5
  ·show TpE L _ (stepE L (pP L k).1 (pP L k).2 6); exact psum_step L hL hT (ok 7) h6
  ·show TpE L _ (stepE L (pP L k).1 (pP L k).2 7); exact pprod_step L hL hT (ok 8) h7
  ·show TpE L _ (stepE L (pP L k).1 (pP L k).2 8); exact pneg_step L hL hT h7 h8
  ·rw [e9]; exact pprim_step L hL hT (ok 1) okq h0 hq
theorem por_d (L : List Tok) (hL : L.length ≤ 1048576) (hT : ∀ t ∈ L, t.text.size ≤ 1048576) : TpE L 42 (pExpr L 1) := (implP L hL hT (pD L)).1
theorem pquery_d (L : List Tok) (hL : L.length ≤ 1048576) (hT : ∀ t ∈ L, t.text.size ≤ 1048576) : TpQ L 54 (pQuery L) := (implP L hL hT (pD L)).2.2.2.2.2.2.2.2.2
end Go.Proofs.YteffjmaadkkmeaaGreatDoor
set_option maxRecDepth 8000
namespace Go.Proofs.YteffjmaadkkmeaaGreatDoor
open Go Go.Dv
open Go.Vc (D shrI xorI andI and255)
open Go.Cv
open Go.Vc (CellF ValsF callable Cells)
theorem relS_ag {P : Program} {w : World} {ds : List D} {vs : List Value} {F : List Nat} (h : ValsF w ds vs F) : RelS P w (fun _ => none) (fun _ => True) (.ag (csOf ds)) (.agg vs.toArray) := ⟨vs, rfl, csOf_rel h fun _ _ => trivial⟩
theorem relS_sl {P : Program} {w : World} {n : Nat} {ds : List D} {v : Value} {G : List Nat} (h : CellF w (.sl n ds) v G) : RelS P w (fun _ => none) (fun _ => True) (.c (.sl n ds none)) v := ⟨G, h, fun _ _ => trivial, fun _ h => by cases h⟩
theorem plain_agi (ds : List D) (k : Int) : plainL ([S.ag (csOf ds), vi k].flatMap cellsS) = true := by
 simp only [List.flatMap_cons, List.flatMap_nil, List.append_nil, plainL_append, cellsS, plainL_csOf, Bool.true_and]; rfl
theorem box_at {w : World} {b : Nat} {vs : List Value} {t : TypeId} (hb : w.heap[b]? = some (.cells vs.toArray t (0, 0))) : Cells w b 0 vs := fun j v hj => by
 rw [Nat.zero_add]; exact box_cell hb (by simpa using hj)
theorem _root_.Go.Cv.Gr.box {w w' : World} {b : Nat} {o : Obj} (g : Gr w w') (hb : w.heap[b]? = some o) : w'.heap[b]? = some o := (g.keep b (Array.getElem?_eq_some_iff.1 hb).1).trans hb
theorem _root_.Go.Cv.ChL.box {F : List Nat} {w w' : World} {b : Nat} {o : Obj} (g : ChL F w w') (hb : w.heap[b]? = some o) (hn : b ∉ F) : w'.heap[b]? = some o := (g.keep b (Array.getElem?_eq_some_iff.1 hb).1 hn).trans hb
theorem obj_lt {w : World} {b : Nat} {o : Obj} (hb : w.heap[b]? = some o) : b < w.heap.size := (Array.getElem?_eq_some_iff.1 hb).1
theorem glw_lt {w : World} (hg : GlW w (fun _ => False)) : ∀ t ∈ libVars, t.1 < w.heap.size := fun t ht => by
 obtain ⟨_, cs, ty, lh, h, _⟩ := hg t ht
 exact obj_lt h
theorem one' {w : World} {ds : List D} {vs : List Value} {F : List Nat} (h : ValsF w ds vs F) : ∀ v ∈ vs, v.oneCell' = true := fun v hv => by
 have := h.oneCell v hv
 revert this
 cases v <;> simp [Go.Vc.oneCell, Value.oneCell']
theorem box_fill {w w1 w2 : World} {b : Nat} {t : TypeId} {z vs : List Value} (hb : b = w.heap.size) (h1 : w1 = w.alloc (.cells z.toArray t)) (h2 : w1.setRow b vs.toArray = w2) (hl : vs.length = z.length) : w2.heap[b]? = some (.cells vs.toArray t (0, 0)) ∧ Gr w w2 := by
 obtain ⟨k1, k2⟩ := box_new hb h1
 subst h2
 refine ⟨setRow_heap w1 b _ _ t _ k1, Nat.le_trans k2.size (by simp), fun x hx => ?_, by rw [← k2.os]; rfl, by rw [← k2.tape]; rfl, by rw [← k2.output]; rfl⟩
 rw [← k2.keep x hx]
 have hne : x ≠ b := by omega
 simp [World.setRow, Array.getElem?_modify, Ne.symm hne]
theorem fpL_app : ∀ a b : List C, fpL (a ++ b) = fpL a ++ fpL b
 | [], _ => rfl
 | x :: r, b => by simp [fpL, fpL_app r b]
theorem res_tuT {P : Program} {w w' : World} {cs : List C} {ds : List D} {F : List (List Nat)} {x v : Value} (ht : Td cs ds F) (h : Go.Cv.Res P w w' (.tu [(cs, false), ([.v x], true)]) v) : ∃ vs G, v = .tuple #[.agg (vs : List Value).toArray, x] ∧ ValsF w' ds vs G ∧ New w w' G := by
 obtain ⟨β, ok, h, hno, hobj, hnew, hnd, hfr⟩ := h
 simp only [expS, expT, ht.exp, expC] at h
 obtain ⟨ys, rfl, h⟩ := h
 have hf : fps (.tu [(cs, false), ([.v x], true)]) [] = F := by simp [fps, cellsS, fpL_app, ht.fp, fpL, fpC, fpB]
 rw [hf] at hnd hfr
 match ys, h with
 | [y, z], h =>
  obtain ⟨h1, h2, _⟩ := h
  obtain ⟨vs, rfl, h1⟩ : ∃ vs : List Value, y = .agg vs.toArray ∧ _ := h1
  obtain ⟨⟨rfl, _⟩, _⟩ : (z = x ∧ _) ∧ True := h2
  obtain ⟨G, hG, hok, hs⟩ := dsOf_rel ht.dat h1
  exact ⟨vs, G, rfl, hG, ⟨(hs _ rfl).nodup hnd, fun b hb => (hfr b ((hs _ rfl).mem hb)).1, fun b hb => (hfr b ((hs _ rfl).mem hb)).2⟩⟩
 | [], h => exact h.elim
 | [_], h => exact h.2.elim
 | _ :: _ :: _ :: _, h => exact h.2.2.elim
theorem res_tu {P : Program} {w w' : World} {ds : List D} {x v : Value} (h : Go.Cv.Res P w w' (.tu [(csOf ds, false), ([.v x], true)]) v) : ∃ vs G, v = .tuple #[.agg (vs : List Value).toArray, x] ∧ ValsF w' ds vs G := by
 obtain ⟨β, ok, h, _⟩ := h
 simp only [expS, expT, expC_csOf, expC] at h
 obtain ⟨ys, rfl, h⟩ := h
 match ys, h with
 | [y, z], h =>
  obtain ⟨h1, h2, _⟩ := h
  obtain ⟨vs, rfl, h1⟩ : ∃ vs : List Value, y = .agg vs.toArray ∧ _ := h1
  obtain ⟨⟨rfl, _⟩, _⟩ : (z = x ∧ _) ∧ True := h2
  obtain ⟨G, hG⟩ := csOf_vals (fun _ _ _ _ => trivial) h1
  exact ⟨vs, G, rfl, hG⟩
 | [], h => exact h.elim
 | [_], h => exact h.2.elim
 | _ :: _ :: _ :: _, h => exact h.2.2.elim
theorem plain_agag (a b : List D) : plainL ([S.ag (csOf a), S.ag (csOf b)].flatMap cellsS) = true := by
 simp only [List.flatMap_cons, List.flatMap_nil, List.append_nil, plainL_append, cellsS, plainL_csOf, Bool.true_and]
end Go.Proofs.YteffjmaadkkmeaaGreatDoor
set_option maxRecDepth 8000
namespace Go.Dv
open Go Go.ChangeShapes Go.WideShapes
theorem returnsInHanded_both {H : Type} {enc : TypeId × Value → H} {a : Assume} {C : Checked} {os : Os} {f : FuncId} {fn : Func} {s : ChangeSpec} {conds : List PathCond} {apart fresh handsOn again : Bool} {X : World → Array Value → Prop}
 (hX : ∀ (w w' : World) (args : Array Value), w.heap = w'.heap → X w args → X w' args)
 (own : ownKnob C.prog.godebug = none) (started : os.Started) (noInit : C.prog.inits.idxOf? f = none) (hfn : C.prog.funcs[f]? = some fn)
 (witness : ∃ (w : World) (tape : Tape) (i : Input), w.os = os ∧ (w.forCall tape i).Shaped C.prog ∧ i.vars = [] ∧ Input.okWide C.prog (w.forCall tape i) .any w.heap.size f i ∧
   ((s.pre enc C.prog fn conds apart (w.forCall tape i).memory i.args ∧ X (w.forCall tape i).memory i.args) ∧ sizedMet enc C.prog fn (OpenSpec.ofChange s) apart (w.forCall tape i).memory i.args) ∧ a.holds C.prog (lone (Frame.enter C.prog f i.args .normal) [] (w.forCall tape i)))
 (contract : ∀ (W : World) (base : Nat) (args : Array Value) (ds gs : List (DataW H)) (before : List MemPlace),
   (∀ (j : Nat) t v, fn.params[j]? = some t → args[j]? = some v → Value.okWide C.prog W .any base t v) →
   DataW.Whole enc C.prog fn.params.toList s.vars apart W args.toList ds gs before →
   conds.all (PathCond.test C.prog ⟨fn.params.toList, ds, s.plain.varTypes C.prog, gs⟩) = true →
   X W args → W.ShapedOpen C.prog →
   Calls C.prog f args W fun e W' => ∃ v, e = .returned v ∧ s.post enc C.prog fn apart fresh handsOn again W args v W') :
 ReturnsInHanded a C os f .any (fun w args => (s.pre enc C.prog fn conds apart w args ∧ X w args) ∧ sizedMet enc C.prog fn (OpenSpec.ofChange s) apart w args) (s.post enc C.prog fn apart fresh handsOn again) := by
 refine returnsInHanded_of_calls own started noInit witness ?_
 intro w tape i _ hsh _ hok hpre hholds
 obtain ⟨_, _, _, fn', hfn', _, _, _, _, hval⟩ := hok
 have e : fn' = fn := Option.some.inj (hfn'.symm.trans hfn)
 subst e
 obtain ⟨⟨⟨ds, gs, before, hw, hc⟩, hx⟩, _⟩ := hpre
 have hw' := DataW.Whole.of_heap (w' := w.forCall tape i) (by rfl) hw
 refine (contract (w.forCall tape i) w.heap.size i.args ds gs before hval hw' hc (hX _ _ _ (by rfl) hx) hsh).mono fun e W' ⟨v, he, hp⟩ => ?_
 subst he
 exact ChangeSpec.post_blind hp
theorem post_old {H : Type} {enc : TypeId × Value → H} {P : Program} {f : Func} {s : ChangeSpec} {apart fresh handsOn again : Bool} {W W' : World} {args : Array Value} {v : Value} {ds gs : List (DataW H)} {before pa pv : List MemPlace}
 (hW : DataW.Whole enc P f.params.toList s.vars apart W args.toList ds gs before)
 (hres : ∀ (b : Nat) (sp : Nat → Bool) (hd : Bool), DataW.TrodAll enc P W' b sp hd f.resultTypes.toList (v.resultList f.resultTypes.size) (s.fn H (ds ++ gs)).results [])
 (hargs : ∀ sp : Nat → Bool, (∀ p ∈ before, sp p.block = true) → DataW.TrodAll enc P W' 0 sp true f.params.toList args.toList (s.fn H (ds ++ gs)).args pa)
 (hvars : ∀ sp : Nat → Bool, (∀ p ∈ before, sp p.block = true) → DataW.TrodVars enc P W' sp s.vars (s.fn H (ds ++ gs)).vars pv)
 (hps : before = pa ++ pv) (hk : W.keptBut W' (· ∈ before)) (hfz : ∀ a : Addr, a.block < W.heap.size → W'.frozen? a = W.frozen? a)
 (hok : ∀ (j : Nat) (t : TypeId) (r : Value), f.resultTypes[j]? = some t → (v.resultList f.resultTypes.size)[j]? = some r → Value.okWide P W' .any 0 t r) :
 s.post enc P f apart fresh handsOn again W args v W' := by
 have hold : ∀ p ∈ before, (fun b => decide (b < W.heap.size)) p.block = true := fun p hp => by simpa using hW.lt p hp
 have hlt : ∀ p ∈ before, p.block < W.heap.size := fun p hp => hW.lt p hp
 refine ⟨ds, gs, before, [], pa, pv, hW, hres _ _ _, hargs _ hold, hvars _ hold, World.keptBut_mono (fun p hp => ⟨hp, ?_⟩) hk, fun _ => ?_⟩
 ·rw [hps, List.mem_append] at hp
  exact Or.inr hp
 ·obtain ⟨_, _, _, _, _, hz, hn⟩ := hW
  refine ⟨hok, _, _, ([] ++ pa) ++ pv, ⟨[] ++ pa, pv, trodAll_append (hargs _ (fun _ _ => rfl)) (hres _ _ _), hvars _ (fun _ _ => rfl), rfl, ?_, ?_⟩, ?_⟩
  ·intro b off hp
   have hp' : MemPlace.cell b off ∈ before := by rw [hps]; simpa using hp
   rw [hfz ⟨b, off, none⟩ (hlt _ hp')]
   exact hz b off hp'
  ·intro ha
   have := hn ha
   rw [hps] at this
   simpa using this
  ·intro p hp _
   rw [hps]
   simpa using hp
theorem glw_of {P : Program} {W : World} {t tp4 tp5 : TypeId} {zero : Array Value} {n1 n4 n5 : String} {a4 a5 : Value} (h1 : P.globalNamed n1 = some 3) (ht : Lib.TabIs P W n1 .u64 Lib.pow10Tab)
 (h : W.ShapedOpen P) (hg : 0 < P.globals.size) (hr : ((begin P (fun _ _ => 0) default).world.heap[0]?).bind Obj.row? = some (zero, t)) (hz : zero.size = 1)
 (hb : P.buildable t = true) (hc : P.cellTypes P.depth t = some [t]) (hu : P.underlying t = some (.int .i64))
 (g4 : P.globalNamed n4 = some 1) (v4 : W.var? P n4 = some #[.iface tp4 a4]) (g5 : P.globalNamed n5 = some 2) (v5 : W.var? P n5 = some #[.iface tp5 a5]) : GlW W (fun _ => False) := by
 intro x hx
 simp only [libVars, List.mem_cons, List.not_mem_nil, or_false] at hx
 rcases hx with rfl | rfl | rfl | rfl
 ·refine ⟨id, ?_⟩
  unfold Lib.TabIs World.var? at ht
  rw [h1, Option.bind_some] at ht
  split at ht
  ·rename_i cs ty lh hh
   exact ⟨cs, ty, lh, hh, Option.some.inj ht⟩
  ·cases ht
 ·refine ⟨id, ?_⟩
  obtain ⟨m, hm⟩ := Go.Proofs.cell_of_shapedOpen_int h hg hr hz hb hc hu
  unfold World.cell? at hm
  simp only at hm
  split at hm
  ·rename_i cs ty lh hh
   exact ⟨cs, ty, lh, hh, m, hm⟩
  ·cases hm
 ·refine ⟨id, ?_⟩
  unfold World.var? at v4
  rw [g4, Option.bind_some] at v4
  split at v4
  ·rename_i cs ty lh hh
   obtain rfl := Option.some.inj v4
   exact ⟨_, ty, lh, hh, _, rfl, .inr ⟨_, _, rfl⟩⟩
  ·cases v4
 ·refine ⟨id, ?_⟩
  unfold World.var? at v5
  rw [g5, Option.bind_some] at v5
  split at v5
  ·rename_i cs ty lh hh
   obtain rfl := Option.some.inj v5
   exact ⟨_, ty, lh, hh, _, rfl, .inr ⟨_, _, rfl⟩⟩
  ·cases v5
end Go.Dv
namespace Go.Proofs.YteffjmaadkkmeaaGreatDoor
open Go Go.Dv Go.ChangeShapes Go.WideShapes Go.ChangeAt Go.RowKit
open Go.Vc (D CellF ValsF read_slice list_cons list_one)
section
variable {W : World}
theorem vf_nil : ValsF W [] [] [] := rfl
theorem vf_lit {v : Value} {ds : List D} {vs : List Value} {F : List Nat} (h : ∃ G, CellF W (.lit v) v G ∧ G = []) (k : ValsF W ds vs F) : ValsF W (.lit v :: ds) (v :: vs) F := by
 obtain ⟨G, h, rfl⟩ := h
 exact ⟨[], F, h, k, rfl⟩
end
section
variable {H : Type} {enc : TypeId × Value → H} {W : World} {base : Nat} {sp : Nat → Bool} {held : Bool}
theorem cells3 : Tryz.prog.cellsOf 3 = 1 := by kernel_rfl
theorem cells70 : Tryz.prog.cellsOf 70 = 3 := by kernel_rfl
theorem cells9 : Tryz.prog.cellsOf 9 = 1 := by kernel_rfl
theorem read_Tok {n : Nat} {cs : List Value} {x : DataW H × List MemPlace} (h : DataW.trod enc Tryz.prog W base sp held n 70 cs = some x) : ∃ (y : Tok) (F : List Nat), ValsF W y.row cs F := by
 obtain ⟨xs, k, hk, _, hl, hlen, hf⟩ := DataW.trod_struct Tryz.underlying70 h
 rw [cells70] at hl
 obtain ⟨c0, r0, rfl, hl1⟩ := list_cons hl
 obtain ⟨c1, r1, rfl, hl2⟩ := list_cons hl1
 obtain ⟨c2, rfl⟩ := list_one hl2
 obtain ⟨x0, s0, rfl, hlen1⟩ := list_cons hlen
 obtain ⟨x1, s1, rfl, hlen2⟩ := list_cons hlen1
 obtain ⟨x2, rfl⟩ := list_one hlen2
 have h0 : DataW.trod enc Tryz.prog W base sp held k 3 (([c0, c1, c2].drop 0).take (Tryz.prog.cellsOf 3)) = some x0 := hf 0 _ rfl
 rw [cells3] at h0
 have h0 : DataW.trod enc Tryz.prog W base sp held k 3 [c0] = some x0 := h0
 have h1 : DataW.trod enc Tryz.prog W base sp held k 9 (([c0, c1, c2].drop 1).take (Tryz.prog.cellsOf 9)) = some x1 := hf 1 _ rfl
 rw [cells9] at h1
 have h1 : DataW.trod enc Tryz.prog W base sp held k 9 [c1] = some x1 := h1
 have h2 : DataW.trod enc Tryz.prog W base sp held k 3 (([c0, c1, c2].drop 2).take (Tryz.prog.cellsOf 3)) = some x2 := hf 2 _ rfl
 rw [cells3] at h2
 have h2 : DataW.trod enc Tryz.prog W base sp held k 3 [c2] = some x2 := h2
 obtain ⟨n0, e0, _, w0⟩ := DataW.trod_int Tryz.underlying3 h0
 obtain ⟨n1, e1, _, b1⟩ := DataW.trod_string Tryz.underlying9 h1
 obtain ⟨n2, e2, _, w2⟩ := DataW.trod_int Tryz.underlying3 h2
 simp only [List.cons.injEq, and_true] at e0 e1 e2
 subst e0 e1 e2
 exact ⟨⟨n0, n1, n2⟩, [], (vf_lit ⟨_, ⟨rfl, rfl, trivial⟩, rfl⟩ (vf_lit ⟨_, ⟨rfl, rfl, b1⟩, rfl⟩ (vf_lit ⟨_, ⟨rfl, rfl, trivial⟩, rfl⟩ vf_nil)))⟩
theorem read_Toks {n : Nat} {cs : List Value} {x : DataW H × List MemPlace} (h : DataW.trod enc Tryz.prog W base sp held n 22 cs = some x) : ∃ (l : List Tok) (v : Value) (F : List Nat), cs = [v] ∧ CellF W (.sl l.length (l.flatMap Tok.row)) v F :=
 read_slice (row := Tok.row) Tryz.underlying22 cells70 (by decide) Tok.row_len (fun _ _ _ _ h' => read_Tok h') h
end
theorem own : ownKnob Tryz.prog.godebug = none := by kernel_rfl
theorem laidOut : laidOutB Tryz.prog = true := by kernel_rfl
theorem star : "*" ++ "errors.errorString" = "*errors.errorString" := by decide
theorem row273 (u : TypeId) (h : Tryz.prog.typeName? 3 u = some "*errors.errorString") : u = 273 :=
 typeName_ptr_named (nm := "errors.errorString") (by rw [star]; kernel_rfl) (by kernel_rfl) (by decide) u (by rw [star]; exact h)
theorem cells275 : Tryz.prog.cellsOf 275 = 1 := by kernel_rfl
theorem gr_frozen {W W' : World} (g : Go.Cv.Gr W W') : ∀ a : Addr, a.block < W.heap.size → W'.frozen? a = W.frozen? a := fun a ha => by
 unfold World.frozen?
 rw [g.keep a.block ha]
end Go.Proofs.YteffjmaadkkmeaaGreatDoor
set_option maxRecDepth 8000
namespace Go.Proofs.YteffjmaadkkmeaaGreatDoor
open Go Go.Dv
open Go.Vc (D shrI xorI andI and255)
open Go.Cv
open Go.Vc (CellF ValsF callable Cells)
set_option maxHeartbeats 8000000 in
theorem markStrings_c (es : List ByteArray) : MkC 69 srow (fun k _ => mtext k) (fun _ => 1) es := by
 intro w k v F h hn ho hg hlib h0 h1
 obtain ⟨a, cap, rfl, hcap, hmax, hz⟩ := h.slice
 have hmax' : cap ≤ 9223372036854775807 := hmax
 have hM := Mrk.start h hn ho
 clear h hn ho
 refine ⟨by kernel_rfl, calls_of_c (vs := [.slice a es.length cap, .int .i64 k]) Tryz.func69 rfl (Nat.le_of_ble_eq_true rfl) ?_⟩
 simp (maxSteps := 10000000) only [tt, c, cl, cg0, cg1, cOp, cCall, cLoad, cLoadA, cStore, cLoop, cEnd, cRet, argsV, regsV, Go.Vc.oneCell, Nat.add_zero, seval, Tryz.f69]
 refine ⟨fun f w1 => ∃ i : Nat, f 5 = vi i ∧ f 1 = vi (k + cnL (fun _ => 1) (es.take i)) ∧ i ≤ es.length ∧ Mrk w F w1 a ((mkL (fun k _ => mtext k) (fun _ => 1) k (es.take i)).flatMap srow) ((es.drop i).flatMap srow), fun f _ => (es.length - ixS (f 5)).toNat, ?_, ?_⟩
 ·simp (maxSteps := 10000000) only [tt, c, cl, cg0, cg1, cOp, cCall, cLoad, cLoadA, cStore, cLoop, cEnd, cRet, argsV, regsV, Go.Vc.oneCell, Nat.add_zero, seval]
  exact ⟨0, rfl, viE (by simp [cnL]), by omega, by simpa [mkL] using hM⟩
 ·rintro g w0 ⟨i, h5, h1', hi, hM⟩
  simp (maxSteps := 10000000) only [tt, c, cl, cg0, cg1, cOp, cCall, cLoad, cLoadA, cStore, cLoop, cEnd, cRet, argsV, regsV, Go.Vc.oneCell, Nat.add_zero, seval] at h5 h1'
  simp (maxSteps := 10000000) only [tt, c, cl, cg0, cg1, cOp, cCall, cLoad, cLoadA, cStore, cLoop, cEnd, cRet, argsV, regsV, Go.Vc.oneCell, Nat.add_zero, seval, h5, h1', Int.ofNat_lt]
  refine And.intro (fun hlt => ?_) (fun hge => ?_)
  ·have hlt : i < es.length := by omega
   have hd : es.drop i = es[i] :: es.drop (i + 1) := List.drop_eq_getElem_cons hlt
   have hks := cnL_take_succ (fun _ => 1) es i hlt
   have hkl := cnL_take_le (fun _ => 1) es (i + 1)
   have hts := mkL_take_succ (fun k _ => mtext k) (fun _ => 1) k es i hlt
   have hdl : ((mkL (fun k _ => mtext k) (fun _ => 1) k (es.take i)).flatMap srow).length = i * 1 := by rw [flatMap_len srow_len, mkL_len, List.length_take]; congr 1; omega
   rw [hd, List.flatMap_cons] at hM
   generalize hk0 : k + (cnL (fun _ => 1) (es.take i) : Int) = k0 at *
   generalize hdone : (mkL (fun k _ => mtext k) (fun _ => 1) k (es.take i)).flatMap srow = done at *
   obtain ⟨e, he⟩ : ∃ e, es[i] = e := ⟨_, rfl⟩
   rw [he] at hM
   replace hks : cnL (fun _ => 1) (es.take (i + 1)) = cnL (fun _ => 1) (es.take i) + 1 := hks
   simp only [srow, List.cons_append, List.nil_append] at hM
   obtain ⟨b, o, rfl, hM0⟩ := hM.open (by simp)
   clear hM
   have hc0 := hM0.chl
   obtain ⟨hcb0, hcl0⟩ := markText_c k0 w0 (glw_chl hc0 hg hlib) (by omega)
   refine ⟨hcb0, _, hcl0, ?_⟩
   rintro _ w1 ⟨rfl, hgr0⟩
   replace hM1 := hM0.grow hgr0
   have hc1 := hM1.chl
   refine Stp.go ?_
   simp (maxSteps := 10000000) only [tt, c, cl, cg0, cg1, cOp, cCall, cLoad, cLoadA, cStore, cLoop, cEnd, cRet, argsV, regsV, Go.Vc.oneCell, Nat.add_zero, seval, h5, h1']
   obtain ⟨q0, z0, w2, e1, hM2⟩ := Mrk1.st hM1 (o + i * 1) (.string (mtext k0)) (by simp [hdl]; try omega) (mtext_ok (by omega))
   have hc2 := hM2.chl
   refine ⟨by omega, by omega, q0, z0, w2, e1, Stp.go ?_⟩
   simp (maxSteps := 10000000) only [tt, c, cl, cg0, cg1, cOp, cCall, cLoad, cLoadA, cStore, cLoop, cEnd, cRet, argsV, regsV, Go.Vc.oneCell, Nat.add_zero, seval, h5, h1']
   rw [wrap_id (n := k0 + 1) (by omega) (by omega)]
   generalize hk1 : k0 + 1 = k1 at *
   rw [wrS i (by omega)]
   refine ⟨⟨i + 1, rfl, viE (by rw [hks]; omega), by omega, ?_⟩, by simp only [ixS]; omega⟩
   rw [hts, List.flatMap_append]
   have := hM2.close
   rw [hdone]
   simpa [srow, List.cons_append, List.nil_append, Val.row, hk1, mkL_len, int, bool, str] using this
  ·have : i = es.length := by omega
   subst this
   rw [List.take_length, List.drop_length] at hM
   obtain ⟨hc, ho, hcg⟩ := hM.done hcap hmax hz
   exact ⟨by rw [List.take_length], hc, ho, hcg⟩
mutual
def cnERow : ERow → Nat
 | .mk l => 0 + cnL cnExpr l
end
mutual
def mkERow : Int → ERow → ERow
 | q, .mk l => .mk (mkL mkExpr cnExpr (q) l)
end
theorem cnERow_mk (l : List Expr) : cnERow (.mk l) = 0 + cnL cnExpr l := by simp only [cnERow, ]
theorem mkERow_mk (q : Int) (l : List Expr) : mkERow q (.mk l) = .mk (mkL mkExpr cnExpr (q) l) := by simp only [mkERow, ]
set_option maxHeartbeats 8000000 in
theorem markERows_step (es : List ERow) : MkC 68 ERow.row mkERow cnERow es := by
 intro w k v F h hn ho hg hlib h0 h1
 obtain ⟨a, cap, rfl, hcap, hmax, hz⟩ := h.slice
 have hmax' : cap ≤ 9223372036854775807 := hmax
 have hM := Mrk.start h hn ho
 clear h hn ho
 refine ⟨by kernel_rfl, calls_of_c (vs := [.slice a es.length cap, .int .i64 k]) Tryz.func68 rfl (Nat.le_of_ble_eq_true rfl) ?_⟩
 simp (maxSteps := 10000000) only [tt, c, cl, cg0, cg1, cOp, cCall, cLoad, cLoadA, cStore, cLoop, cEnd, cRet, argsV, regsV, Go.Vc.oneCell, Nat.add_zero, seval, Tryz.f68]
 refine ⟨fun f w1 => ∃ i : Nat, f 5 = vi i ∧ f 1 = vi (k + cnL cnERow (es.take i)) ∧ i ≤ es.length ∧ Mrk w F w1 a ((mkL mkERow cnERow k (es.take i)).flatMap ERow.row) ((es.drop i).flatMap ERow.row), fun f _ => (es.length - ixS (f 5)).toNat, ?_, ?_⟩
 ·simp (maxSteps := 10000000) only [tt, c, cl, cg0, cg1, cOp, cCall, cLoad, cLoadA, cStore, cLoop, cEnd, cRet, argsV, regsV, Go.Vc.oneCell, Nat.add_zero, seval]
  exact ⟨0, rfl, viE (by simp [cnL]), by omega, by simpa [mkL] using hM⟩
 ·rintro g w0 ⟨i, h5, h1', hi, hM⟩
  simp (maxSteps := 10000000) only [tt, c, cl, cg0, cg1, cOp, cCall, cLoad, cLoadA, cStore, cLoop, cEnd, cRet, argsV, regsV, Go.Vc.oneCell, Nat.add_zero, seval] at h5 h1'
  simp (maxSteps := 10000000) only [tt, c, cl, cg0, cg1, cOp, cCall, cLoad, cLoadA, cStore, cLoop, cEnd, cRet, argsV, regsV, Go.Vc.oneCell, Nat.add_zero, seval, h5, h1', Int.ofNat_lt]
  refine And.intro (fun hlt => ?_) (fun hge => ?_)
  ·have hlt : i < es.length := by omega
   have hd : es.drop i = es[i] :: es.drop (i + 1) := List.drop_eq_getElem_cons hlt
   have hks := cnL_take_succ cnERow es i hlt
   have hkl := cnL_take_le cnERow es (i + 1)
   have hts := mkL_take_succ mkERow cnERow k es i hlt
   have hdl : ((mkL mkERow cnERow k (es.take i)).flatMap ERow.row).length = i * 1 := by rw [flatMap_len ERow.row_len, mkL_len, List.length_take]; congr 1; omega
   rw [hd, List.flatMap_cons] at hM
   generalize hk0 : k + (cnL cnERow (es.take i) : Int) = k0 at *
   generalize hdone : (mkL mkERow cnERow k (es.take i)).flatMap ERow.row = done at *
   obtain ⟨e, he⟩ : ∃ e, es[i] = e := ⟨_, rfl⟩
   rw [he] at hks hts hM
   obtain ⟨l⟩ := e
   rw [cnERow_mk] at hks
   simp only [ERow.row_mk, List.cons_append, List.nil_append, Val.row] at hM
   obtain ⟨b, o, rfl, hM0⟩ := hM.open (by simp)
   clear hM
   have hc0 := hM0.chl
   obtain ⟨v0, G0, hv0, hd0, nd0, ow0, sb0, nx0⟩ := Mrk1.load hM0 (p := o + i * 1) (by simp [hdl]; try omega)
   refine ⟨by omega, by omega, _, hv0, ?_⟩
   obtain ⟨hcb0, hcl0⟩ := markExprs_c _ w0 k0 v0 G0 hd0 nd0 ow0 (glw_chl hc0 hg hlib) (fun t ht hm => hlib t ht (sb0 _ hm)) (by omega) (by omega)
   refine ⟨hcb0, _, hcl0, ?_⟩
   rintro _ w1 ⟨rfl, cd0, ow0', cg0⟩
   have hM1 := nx0 _ _ cg0 cd0 ow0'
   have hc1 := hM1.chl
   refine Stp.go ?_
   simp (maxSteps := 10000000) only [tt, c, cl, cg0, cg1, cOp, cCall, cLoad, cLoadA, cStore, cLoop, cEnd, cRet, argsV, regsV, Go.Vc.oneCell, Nat.add_zero, seval, h5, h1']
   generalize hk1 : k0 + (cnL cnExpr l : Int) = k1 at *
   rw [wrS i (by omega)]
   refine ⟨⟨i + 1, rfl, viE (by rw [hks]; omega), by omega, ?_⟩, by simp only [ixS]; omega⟩
   rw [hts, List.flatMap_append]
   have := hM1.close
   rw [hdone]
   simpa [mkERow_mk, ERow.row_mk, List.cons_append, List.nil_append, Val.row, hk1, mkL_len, int, bool, str] using this
  ·have : i = es.length := by omega
   subst this
   rw [List.take_length, List.drop_length] at hM
   obtain ⟨hc, ho, hcg⟩ := hM.done hcap hmax hz
   exact ⟨by rw [List.take_length], hc, ho, hcg⟩
theorem markERows_c (es : List ERow) : MkC 68 ERow.row mkERow cnERow es := markERows_step es
theorem vals_app {w : World} : ∀ {ds es : List D} {vs us : List Value} {F G : List Nat}, ValsF w ds vs F → ValsF w es us G → ValsF w (ds ++ es) (vs ++ us) (F ++ G)
 | [], es, vs, us, F, G, h, k => by
  obtain ⟨rfl, rfl⟩ := vals_nil h
  exact k
 | d :: ds, es, vs, us, F, G, h, k => by
  obtain ⟨v, r, F1, R, rfl, c, hh, rfl⟩ := vals_cons h
  rw [List.append_assoc]
  exact vals_cons_mk c (vals_app hh k)
theorem box_sub {w : World} {b : Nat} {t : TypeId} (pre va post : List Value) (hb : w.heap[b]? = some (.cells (pre ++ (va ++ post)).toArray t (0, 0))) : Cells w b pre.length va := fun j v hj => box_cell hb (by
 rw [List.getElem?_toArray, List.getElem?_append_right (by omega), Nat.add_sub_cancel_left, List.getElem?_append_left (List.getElem?_eq_some_iff.1 hj).1]; exact hj)
set_option maxHeartbeats 1000000 in
theorem markStmt_c (kind : Int) (query_distinct : Bool) (query_items : List Item) (query_from_ : List Source) (query_where_ : List Expr) (query_order : List SortKey) (query_limit : Int) (table : ByteArray) (rows : List ERow) (cols : List ByteArray) (sets : List Expr) (where_ : List Expr) (q : Int) (w : World) (vs : List Value) (F : List Nat) (h : ValsF w (Stmt.mk kind (Query.mk query_distinct query_items query_from_ query_where_ query_order query_limit) table rows cols sets where_).row vs F) (hn : F.Nodup) (ho : OwnL w F) (hg : GlW w (fun _ => False)) (hlib : ∀ t ∈ libVars, t.1 ∉ F) (h0 : 0 ≤ q) (h1 : q + (cnL cnItem query_items : Int) + (cnL cnSource query_from_ : Int) + (cnL cnExpr query_where_ : Int) + (cnL cnSortKey query_order : Int) + (cnL cnERow rows : Int) + (cnL (fun _ => 1) cols : Int) + (cnL cnExpr sets : Int) + (cnL cnExpr where_ : Int) ≤ 4611686018427387904) :
 callable Tryz.prog 27 = true ∧ Calls Tryz.prog 27 #[.agg vs.toArray, .int .i64 q] w fun e w' => ∃ r, e = .returned r ∧ r = .int .i64 (q + (cnL cnItem query_items : Int) + (cnL cnSource query_from_ : Int) + (cnL cnExpr query_where_ : Int) + (cnL cnSortKey query_order : Int) + (cnL cnERow rows : Int) + (cnL (fun _ => 1) cols : Int) + (cnL cnExpr sets : Int) + (cnL cnExpr where_ : Int)) ∧ ValsF w' (Stmt.mk kind (Query.mk query_distinct (mkL mkItem cnItem (q) query_items) (mkL mkSource cnSource (q + (cnL cnItem query_items : Int)) query_from_) (mkL mkExpr cnExpr (q + (cnL cnItem query_items : Int) + (cnL cnSource query_from_ : Int)) query_where_) (mkL mkSortKey cnSortKey (q + (cnL cnItem query_items : Int) + (cnL cnSource query_from_ : Int) + (cnL cnExpr query_where_ : Int)) query_order) query_limit) table (mkL mkERow cnERow (q + (cnL cnItem query_items : Int) + (cnL cnSource query_from_ : Int) + (cnL cnExpr query_where_ : Int) + (cnL cnSortKey query_order : Int)) rows) (mkL (fun k _ => mtext k) (fun _ => 1) (q + (cnL cnItem query_items : Int) + (cnL cnSource query_from_ : Int) + (cnL cnExpr query_where_ : Int) + (cnL cnSortKey query_order : Int) + (cnL cnERow rows : Int)) cols) (mkL mkExpr cnExpr (q + (cnL cnItem query_items : Int) + (cnL cnSource query_from_ : Int) + (cnL cnExpr query_where_ : Int) + (cnL cnSortKey query_order : Int) + (cnL cnERow rows : Int) + (cnL (fun _ => 1) cols : Int)) sets) (mkL mkExpr cnExpr (q + (cnL cnItem query_items : Int) + (cnL cnSource query_from_ : Int) + (cnL cnExpr query_where_ : Int) + (cnL cnSortKey query_order : Int) + (cnL cnERow rows : Int) + (cnL (fun _ => 1) cols : Int) + (cnL cnExpr sets : Int)) where_)).row vs F ∧ OwnL w' F ∧ ChL F w w' := by
 simp only [Stmt.row_mk] at h ⊢
 obtain ⟨v0, r0, F0, R0, rfl, c0, hh0, rfl⟩ := vals_cons h
 obtain ⟨rfl, rfl, ok0⟩ := c0
 obtain ⟨va, vb, Fa, Rb, rfl, rfl, ca, hhb⟩ := ValsF.split hh0
 obtain ⟨v1, r1, F1, R1, rfl, c1, hh1, rfl⟩ := vals_cons hhb
 obtain ⟨rfl, rfl, ok1⟩ := c1
 obtain ⟨v2, r2, F2, R2, rfl, c2, hh2, rfl⟩ := vals_cons hh1
 obtain ⟨v3, r3, F3, R3, rfl, c3, hh3, rfl⟩ := vals_cons hh2
 obtain ⟨v4, r4, F4, R4, rfl, c4, hh4, rfl⟩ := vals_cons hh3
 obtain ⟨v5, r5, F5, R5, rfl, c5, hh5, rfl⟩ := vals_cons hh4
 obtain ⟨rfl, rfl⟩ := vals_nil hh5
 simp only [List.nil_append, List.append_nil] at hn ho hlib ⊢
 have hva : va.length = 6 := ca.length.trans (Query.row_len _)
 have na : Fa.Nodup := nodup_of hn (by intro x; simp only [List.count_append]; omega)
 have n2 : F2.Nodup := nodup_of hn (by intro x; simp only [List.count_append]; omega)
 have n3 : F3.Nodup := nodup_of hn (by intro x; simp only [List.count_append]; omega)
 have n4 : F4.Nodup := nodup_of hn (by intro x; simp only [List.count_append]; omega)
 have n5 : F5.Nodup := nodup_of hn (by intro x; simp only [List.count_append]; omega)
 have oa : OwnL w Fa := ho.sub (by intro x hx; simp [hx])
 have la : ∀ t ∈ libVars, t.1 ∉ Fa := fun t ht hm => hlib t ht (by simp [hm])
 have o2 : OwnL w F2 := ho.sub (by intro x hx; simp [hx])
 have l2 : ∀ t ∈ libVars, t.1 ∉ F2 := fun t ht hm => hlib t ht (by simp [hm])
 have o3 : OwnL w F3 := ho.sub (by intro x hx; simp [hx])
 have l3 : ∀ t ∈ libVars, t.1 ∉ F3 := fun t ht hm => hlib t ht (by simp [hm])
 have o4 : OwnL w F4 := ho.sub (by intro x hx; simp [hx])
 have l4 : ∀ t ∈ libVars, t.1 ∉ F4 := fun t ht hm => hlib t ht (by simp [hm])
 have o5 : OwnL w F5 := ho.sub (by intro x hx; simp [hx])
 have l5 : ∀ t ∈ libVars, t.1 ∉ F5 := fun t ht hm => hlib t ht (by simp [hm])
 have da_2 : ∀ x ∈ Fa, x ∉ F2 := fun x hx hy => disj_of hn (by intro x; simp only [List.count_append]; omega) x hx hy
 have da_3 : ∀ x ∈ Fa, x ∉ F3 := fun x hx hy => disj_of hn (by intro x; simp only [List.count_append]; omega) x hx hy
 have da_4 : ∀ x ∈ Fa, x ∉ F4 := fun x hx hy => disj_of hn (by intro x; simp only [List.count_append]; omega) x hx hy
 have da_5 : ∀ x ∈ Fa, x ∉ F5 := fun x hx hy => disj_of hn (by intro x; simp only [List.count_append]; omega) x hx hy
 have d2_a : ∀ x ∈ F2, x ∉ Fa := fun x hx hy => disj_of hn (by intro x; simp only [List.count_append]; omega) x hx hy
 have d2_3 : ∀ x ∈ F2, x ∉ F3 := fun x hx hy => disj_of hn (by intro x; simp only [List.count_append]; omega) x hx hy
 have d2_4 : ∀ x ∈ F2, x ∉ F4 := fun x hx hy => disj_of hn (by intro x; simp only [List.count_append]; omega) x hx hy
 have d2_5 : ∀ x ∈ F2, x ∉ F5 := fun x hx hy => disj_of hn (by intro x; simp only [List.count_append]; omega) x hx hy
 have d3_a : ∀ x ∈ F3, x ∉ Fa := fun x hx hy => disj_of hn (by intro x; simp only [List.count_append]; omega) x hx hy
 have d3_2 : ∀ x ∈ F3, x ∉ F2 := fun x hx hy => disj_of hn (by intro x; simp only [List.count_append]; omega) x hx hy
 have d3_4 : ∀ x ∈ F3, x ∉ F4 := fun x hx hy => disj_of hn (by intro x; simp only [List.count_append]; omega) x hx hy
 have d3_5 : ∀ x ∈ F3, x ∉ F5 := fun x hx hy => disj_of hn (by intro x; simp only [List.count_append]; omega) x hx hy
 have d4_a : ∀ x ∈ F4, x ∉ Fa := fun x hx hy => disj_of hn (by intro x; simp only [List.count_append]; omega) x hx hy
 have d4_2 : ∀ x ∈ F4, x ∉ F2 := fun x hx hy => disj_of hn (by intro x; simp only [List.count_append]; omega) x hx hy
 have d4_3 : ∀ x ∈ F4, x ∉ F3 := fun x hx hy => disj_of hn (by intro x; simp only [List.count_append]; omega) x hx hy
 have d4_5 : ∀ x ∈ F4, x ∉ F5 := fun x hx hy => disj_of hn (by intro x; simp only [List.count_append]; omega) x hx hy
 have d5_a : ∀ x ∈ F5, x ∉ Fa := fun x hx hy => disj_of hn (by intro x; simp only [List.count_append]; omega) x hx hy
 have d5_2 : ∀ x ∈ F5, x ∉ F2 := fun x hx hy => disj_of hn (by intro x; simp only [List.count_append]; omega) x hx hy
 have d5_3 : ∀ x ∈ F5, x ∉ F3 := fun x hx hy => disj_of hn (by intro x; simp only [List.count_append]; omega) x hx hy
 have d5_4 : ∀ x ∈ F5, x ∉ F4 := fun x hx hy => disj_of hn (by intro x; simp only [List.count_append]; omega) x hx hy
 refine ⟨by kernel_rfl, ?_⟩
 have hcc := fun R => @calls_of_c Tryz.prog w 27 Tryz.f27 _ [.agg (.int .i64 kind :: (va ++ [.string table, v2, v3, v4, v5]) : List Value).toArray, .int .i64 q] R Tryz.func27 rfl (Nat.le_of_ble_eq_true rfl)
 refine hcc _ ?_
 simp (maxSteps := 10000000) only [tt, c, cl, cg0, cg1, cOp, cCall, cLoad, cLoadA, cStore, cLoop, cEnd, cRet, argsV, regsV, Go.Vc.oneCell, Nat.add_zero, seval, Tryz.f27, cBox]
 intro b w1 hb hw1
 obtain ⟨hbx, hg1⟩ := box_new hb hw1
 try simp only [List.toList_toArray, Array.toArray_toList] at hbx
 have hlt : ∀ x ∈ Fa ++ (F2 ++ (F3 ++ (F4 ++ F5))), x < b := fun x hx => by rw [hb]; exact Go.Cv.vis_lt (ho.vis x hx)
 replace ca := ca.grow hg1.grow
 replace oa := oa.grow hg1.grow
 replace c2 := c2.grow hg1.grow
 replace o2 := o2.grow hg1.grow
 replace c3 := c3.grow hg1.grow
 replace o3 := o3.grow hg1.grow
 replace c4 := c4.grow hg1.grow
 replace o4 := o4.grow hg1.grow
 replace c5 := c5.grow hg1.grow
 replace o5 := o5.grow hg1.grow
 have hG := glw_gr hg1 hg
 refine ⟨va, hva, box_sub [.int .i64 kind] va _ hbx, ?_⟩
 obtain ⟨hcba, hcla⟩ := markQuery_c query_distinct query_items query_from_ query_where_ query_order query_limit q w1 va Fa ca na oa hG la h0 (by omega)
 refine ⟨hcba, _, hcla, ?_⟩
 rintro _ w2 ⟨rfl, ca, oa, ga⟩
 replace hbx := (ga.keep b (lt_of_heap hbx) (fun hm => absurd (hlt b (by simp [hm])) (Nat.lt_irrefl _))).trans hbx
 replace hG := glw_chl ga hG la
 replace c2 := c2.chg ga.chg d2_a
 replace o2 := o2.other ga d2_a
 replace c3 := c3.chg ga.chg d3_a
 replace o3 := o3.other ga d3_a
 replace c4 := c4.chg ga.chg d4_a
 replace o4 := o4.other ga d4_a
 replace c5 := c5.chg ga.chg d5_a
 replace o5 := o5.other ga d5_a
 have gg0 : ChL (Fa ++ (F2 ++ (F3 ++ (F4 ++ F5)))) w1 w2 := ga.mono (by intro x hx; simp [hx])
 refine Stp.go ?_
 simp (maxSteps := 10000000) only [tt, c, cl, cg0, cg1, cOp, cCall, cLoad, cLoadA, cStore, cLoop, cEnd, cRet, argsV, regsV, Go.Vc.oneCell, Nat.add_zero, seval]
 refine ⟨v2, box_cell hbx (by simp [List.getElem?_append, hva]), ?_⟩
 obtain ⟨hcb2, hcl2⟩ := markERows_c rows w2 (q + (cnL cnItem query_items : Int) + (cnL cnSource query_from_ : Int) + (cnL cnExpr query_where_ : Int) + (cnL cnSortKey query_order : Int)) v2 F2 c2 n2 o2 hG l2 (by omega) (by omega)
 refine ⟨hcb2, _, hcl2, ?_⟩
 rintro _ w3 ⟨rfl, c2, o2, g2⟩
 replace hbx := (g2.keep b (lt_of_heap hbx) (fun hm => absurd (hlt b (by simp [hm])) (Nat.lt_irrefl _))).trans hbx
 replace hG := glw_chl g2 hG l2
 replace ca := ca.chg g2.chg da_2
 replace oa := oa.other g2 da_2
 replace c3 := c3.chg g2.chg d3_2
 replace o3 := o3.other g2 d3_2
 replace c4 := c4.chg g2.chg d4_2
 replace o4 := o4.other g2 d4_2
 replace c5 := c5.chg g2.chg d5_2
 replace o5 := o5.other g2 d5_2
 have gg1 : ChL (Fa ++ (F2 ++ (F3 ++ (F4 ++ F5)))) w2 w3 := g2.mono (by intro x hx; simp [hx])
 refine Stp.go ?_
 simp (maxSteps := 10000000) only [tt, c, cl, cg0, cg1, cOp, cCall, cLoad, cLoadA, cStore, cLoop, cEnd, cRet, argsV, regsV, Go.Vc.oneCell, Nat.add_zero, seval]
 refine ⟨v3, box_cell hbx (by simp [List.getElem?_append, hva]), ?_⟩
 obtain ⟨hcb3, hcl3⟩ := markStrings_c cols w3 (q + (cnL cnItem query_items : Int) + (cnL cnSource query_from_ : Int) + (cnL cnExpr query_where_ : Int) + (cnL cnSortKey query_order : Int) + (cnL cnERow rows : Int)) v3 F3 c3 n3 o3 hG l3 (by omega) (by omega)
 refine ⟨hcb3, _, hcl3, ?_⟩
 rintro _ w4 ⟨rfl, c3, o3, g3⟩
 replace hbx := (g3.keep b (lt_of_heap hbx) (fun hm => absurd (hlt b (by simp [hm])) (Nat.lt_irrefl _))).trans hbx
 replace hG := glw_chl g3 hG l3
 replace ca := ca.chg g3.chg da_3
 replace oa := oa.other g3 da_3
 replace c2 := c2.chg g3.chg d2_3
 replace o2 := o2.other g3 d2_3
 replace c4 := c4.chg g3.chg d4_3
 replace o4 := o4.other g3 d4_3
 replace c5 := c5.chg g3.chg d5_3
 replace o5 := o5.other g3 d5_3
 have gg2 : ChL (Fa ++ (F2 ++ (F3 ++ (F4 ++ F5)))) w3 w4 := g3.mono (by intro x hx; simp [hx])
 refine Stp.go ?_
 simp (maxSteps := 10000000) only [tt, c, cl, cg0, cg1, cOp, cCall, cLoad, cLoadA, cStore, cLoop, cEnd, cRet, argsV, regsV, Go.Vc.oneCell, Nat.add_zero, seval]
 refine ⟨v4, box_cell hbx (by simp [List.getElem?_append, hva]), ?_⟩
 obtain ⟨hcb4, hcl4⟩ := markExprs_c sets w4 (q + (cnL cnItem query_items : Int) + (cnL cnSource query_from_ : Int) + (cnL cnExpr query_where_ : Int) + (cnL cnSortKey query_order : Int) + (cnL cnERow rows : Int) + (cnL (fun _ => 1) cols : Int)) v4 F4 c4 n4 o4 hG l4 (by omega) (by omega)
 refine ⟨hcb4, _, hcl4, ?_⟩
 rintro _ w5 ⟨rfl, c4, o4, g4⟩
 replace hbx := (g4.keep b (lt_of_heap hbx) (fun hm => absurd (hlt b (by simp [hm])) (Nat.lt_irrefl _))).trans hbx
 replace hG := glw_chl g4 hG l4
 replace ca := ca.chg g4.chg da_4
 replace oa := oa.other g4 da_4
 replace c2 := c2.chg g4.chg d2_4
 replace o2 := o2.other g4 d2_4
 replace c3 := c3.chg g4.chg d3_4
 replace o3 := o3.other g4 d3_4
 replace c5 := c5.chg g4.chg d5_4
 replace o5 := o5.other g4 d5_4
 have gg3 : ChL (Fa ++ (F2 ++ (F3 ++ (F4 ++ F5)))) w4 w5 := g4.mono (by intro x hx; simp [hx])
 refine Stp.go ?_
 simp (maxSteps := 10000000) only [tt, c, cl, cg0, cg1, cOp, cCall, cLoad, cLoadA, cStore, cLoop, cEnd, cRet, argsV, regsV, Go.Vc.oneCell, Nat.add_zero, seval]
 refine ⟨v5, box_cell hbx (by simp [List.getElem?_append, hva]), ?_⟩
 obtain ⟨hcb5, hcl5⟩ := markExprs_c where_ w5 (q + (cnL cnItem query_items : Int) + (cnL cnSource query_from_ : Int) + (cnL cnExpr query_where_ : Int) + (cnL cnSortKey query_order : Int) + (cnL cnERow rows : Int) + (cnL (fun _ => 1) cols : Int) + (cnL cnExpr sets : Int)) v5 F5 c5 n5 o5 hG l5 (by omega) (by omega)
 refine ⟨hcb5, _, hcl5, ?_⟩
 rintro _ w6 ⟨rfl, c5, o5, g5⟩
 replace hbx := (g5.keep b (lt_of_heap hbx) (fun hm => absurd (hlt b (by simp [hm])) (Nat.lt_irrefl _))).trans hbx
 replace hG := glw_chl g5 hG l5
 replace ca := ca.chg g5.chg da_5
 replace oa := oa.other g5 da_5
 replace c2 := c2.chg g5.chg d2_5
 replace o2 := o2.other g5 d2_5
 replace c3 := c3.chg g5.chg d3_5
 replace o3 := o3.other g5 d3_5
 replace c4 := c4.chg g5.chg d4_5
 replace o4 := o4.other g5 d4_5
 have gg4 : ChL (Fa ++ (F2 ++ (F3 ++ (F4 ++ F5)))) w5 w6 := g5.mono (by intro x hx; simp [hx])
 refine Stp.go ?_
 simp (maxSteps := 10000000) only [tt, c, cl, cg0, cg1, cOp, cCall, cLoad, cLoadA, cStore, cLoop, cEnd, cRet, argsV, regsV, Go.Vc.oneCell, Nat.add_zero, seval]
 refine ⟨?_, oa.app (o2.app (o3.app (o4.app o5))), (((((hg1.chl _).trans gg0).trans gg1).trans gg2).trans gg3).trans gg4⟩
 simpa [mkL_len] using (vals_cons_mk (lit_cell ok0) (vals_app ca (vals_cons_mk (lit_cell ok1) (vals_cons_mk c2 (vals_cons_mk c3 (vals_cons_mk c4 (vals_cons_mk c5 vals_nil_mk)))))))
mutual
def cnStmt : Stmt → Nat
 | .mk kind (.mk query_distinct query_items query_from_ query_where_ query_order query_limit) table rows cols sets where_ => 4 + cnL cnItem query_items + cnL cnSource query_from_ + cnL cnExpr query_where_ + cnL cnSortKey query_order + cnL cnERow rows + cnL (fun _ => 1) cols + cnL cnExpr sets + cnL cnExpr where_
end
theorem cnStmt_mk (kind : Int) (query_distinct : Bool) (query_items : List Item) (query_from_ : List Source) (query_where_ : List Expr) (query_order : List SortKey) (query_limit : Int) (table : ByteArray) (rows : List ERow) (cols : List ByteArray) (sets : List Expr) (where_ : List Expr) : cnStmt (.mk kind (.mk query_distinct query_items query_from_ query_where_ query_order query_limit) table rows cols sets where_) = 4 + cnL cnItem query_items + cnL cnSource query_from_ + cnL cnExpr query_where_ + cnL cnSortKey query_order + cnL cnERow rows + cnL (fun _ => 1) cols + cnL cnExpr sets + cnL cnExpr where_ := by simp only [cnStmt, ]
set_option maxHeartbeats 8000000 in
theorem heldStrings_d (es : List ByteArray) : HdC 71 srow (fun k _ => mtext k) (fun _ => 1) es := by
 intro k h0 hk
 obtain ⟨ms, hms⟩ : ∃ ms, ms = mkL (fun k _ => mtext k) (fun _ => 1) k es := ⟨_, rfl⟩
 have hml : es.length = ms.length := by rw [hms, mkL_len]
 rw [← hms, hml]
 refine cl_of_d follows_mixed false Tryz.func71 rfl (by kernel_rfl) ?_
 simp only [Tryz.f71, tt, seval]
 refine dLoop.intro (fun f L p => ∃ i : Nat, f 5 = vi i ∧ f 1 = vi (k + cnL (fun _ => 1) (es.take i)) ∧ i ≤ ms.length ∧ L = [] ∧ p = none) (fun f _ _ => (ms.length - ixS (f 5)).toNat) [] none ⟨SubO.nil _, PoSub.none _, ?_⟩ ?_
 ·simp only [tt, seval]
  exact ⟨0, rfl, viE (by simp [cnL]), by omega⟩
 ·rintro g L p ⟨i, h5, h1, hi, rfl, rfl⟩
  simp only [tt, seval] at h5 h1
  simp only [tt, seval, h5, h1, Int.ofNat_lt]
  refine fun _ => And.intro (fun hlt => ?_) (fun hge => ?_)
  ·have hlt : i < ms.length := by omega
   have hlt' : i < es.length := by omega
   have hks := cnL_take_succ (fun _ => 1) es i hlt'
   have hkl := cnL_take_le (fun _ => 1) es (i + 1)
   have hx' : ms[i]? = some ((fun k _ => mtext k) (k + cnL (fun _ => 1) (es.take i)) es[i]) := by rw [hms]; exact mkL_get _ _ _ _ _ hlt'
   generalize hk0 : k + (cnL (fun _ => 1) (es.take i) : Int) = k0 at *
   obtain ⟨e, he⟩ : ∃ e, es[i] = e := ⟨_, rfl⟩
   rw [he] at hx'
   replace hks : cnL (fun _ => 1) (es.take (i + 1)) = cnL (fun _ => 1) (es.take i) + 1 := hks
   replace hx' : ms[i]? = some (mtext k0) := hx'
   have i0 : ((0 : Int) ≤ (i : Int)) = True := eq_true (by omega)
   have iL : ((i : Int) < (ms.length : Int)) = True := eq_true (by omega)
   have iT : (i < ms.length) = True := eq_true hlt
   simp only [tt, seval, h5, h1, idxAt hx' srow_len, i0, iL, iT, mkL_len, srow, Val.row, List.cons_append, List.nil_append, List.append_assoc]
   refine dDrawn.intro [] (pln [0, 2, 4, 6, 8, 11, 12]) (by kernel_rfl) ?_
   simp only [tt, seval]
   all_goals try simp only [tt, seval, h5, h1, idxAt hx' srow_len, i0, iL, iT, mkL_len, srow, Val.row, List.cons_append, List.nil_append, List.append_assoc]
   refine call0 (markText_d (k0) (by omega)) ?_ ?_ ?_
   ·decide
   ·simp only [tt, seval, h5, h1, idxAt hx' srow_len, i0, iL, iT, mkL_len, srow, Val.row, List.cons_append, List.nil_append, List.append_assoc]
   rintro r rfl
   simp only [tt, seval, h5, h1, idxAt hx' srow_len, i0, iL, iT, mkL_len, srow, Val.row, List.cons_append, List.nil_append, List.append_assoc]
   rw [wrap_id (n := k0 + 1) (by omega) (by omega)]
   generalize hk1 : k0 + 1 = k1 at *
   try simp only [tt, seval, h5, h1, idxAt hx' srow_len, i0, iL, iT, mkL_len, srow, Val.row, List.cons_append, List.nil_append, List.append_assoc]
   rw [wrS i (by omega)]
   exact ⟨[], none, SubO.nil _, PoSub.none _, ⟨i + 1, rfl, viE (by rw [hks]; omega), by omega, rfl, rfl⟩, by simp only [ixS]; omega⟩
  ·have : i = es.length := by omega
   subst this
   rw [List.take_length] at h1
   refine ⟨_, _, ?_, end0 rfl⟩
   first | rfl | (rw [List.take_length]) | simp only [List.take_length]
set_option maxHeartbeats 8000000 in
theorem heldERows_d (es : List ERow) : HdC 70 ERow.row mkERow cnERow es := by
 intro k h0 hk
 obtain ⟨ms, hms⟩ : ∃ ms, ms = mkL mkERow cnERow k es := ⟨_, rfl⟩
 have hml : es.length = ms.length := by rw [hms, mkL_len]
 rw [← hms, hml]
 refine cl_of_d follows_mixed false Tryz.func70 rfl (by kernel_rfl) ?_
 simp only [Tryz.f70, tt, seval]
 refine dLoop.intro (fun f L p => ∃ i : Nat, f 5 = vi i ∧ f 1 = vi (k + cnL cnERow (es.take i)) ∧ i ≤ ms.length ∧ L = [] ∧ p = none) (fun f _ _ => (ms.length - ixS (f 5)).toNat) [] none ⟨SubO.nil _, PoSub.none _, ?_⟩ ?_
 ·simp only [tt, seval]
  exact ⟨0, rfl, viE (by simp [cnL]), by omega⟩
 ·rintro g L p ⟨i, h5, h1, hi, rfl, rfl⟩
  simp only [tt, seval] at h5 h1
  simp only [tt, seval, h5, h1, Int.ofNat_lt]
  refine fun _ => And.intro (fun hlt => ?_) (fun hge => ?_)
  ·have hlt : i < ms.length := by omega
   have hlt' : i < es.length := by omega
   have hks := cnL_take_succ cnERow es i hlt'
   have hkl := cnL_take_le cnERow es (i + 1)
   have hx' : ms[i]? = some (mkERow (k + cnL cnERow (es.take i)) es[i]) := by rw [hms]; exact mkL_get _ _ _ _ _ hlt'
   generalize hk0 : k + (cnL cnERow (es.take i) : Int) = k0 at *
   obtain ⟨e, he⟩ : ∃ e, es[i] = e := ⟨_, rfl⟩
   rw [he] at hx' hks
   obtain ⟨l⟩ := e
   rw [cnERow_mk] at hks
   rw [mkERow_mk] at hx'
   have i0 : ((0 : Int) ≤ (i : Int)) = True := eq_true (by omega)
   have iL : ((i : Int) < (ms.length : Int)) = True := eq_true (by omega)
   have iT : (i < ms.length) = True := eq_true hlt
   simp only [tt, seval, h5, h1, idxAt hx' ERow.row_len, i0, iL, iT, mkL_len, ERow.row_mk, Val.row, List.cons_append, List.nil_append, List.append_assoc]
   refine call0 (heldExprs_d l (k0) (by omega) (by omega)) ?_ ?_ ?_
   ·decide
   ·simp only [tt, seval, h5, h1, idxAt hx' ERow.row_len, i0, iL, iT, mkL_len, ERow.row_mk, Val.row, List.cons_append, List.nil_append, List.append_assoc]
   rintro r rfl
   simp only [tt, seval, h5, h1, idxAt hx' ERow.row_len, i0, iL, iT, mkL_len, ERow.row_mk, Val.row, List.cons_append, List.nil_append, List.append_assoc]
   have ng0 : decide (k0 + (cnL cnExpr l : Int) < 0) = false := decide_eq_false (by omega)
   have np0 : (k0 + (cnL cnExpr l : Int) < 0) = False := eq_false (by omega)
   try simp only [tt, seval, ng0, np0, h5, h1, idxAt hx' ERow.row_len, i0, iL, iT, mkL_len, ERow.row_mk, Val.row, List.cons_append, List.nil_append, List.append_assoc]
   generalize hk1 : k0 + (cnL cnExpr l : Int) = k1 at *
   rw [wrS i (by omega)]
   exact ⟨[], none, SubO.nil _, PoSub.none _, ⟨i + 1, rfl, viE (by rw [hks]; omega), by omega, rfl, rfl⟩, by simp only [ixS]; omega⟩
  ·have : i = es.length := by omega
   subst this
   rw [List.take_length] at h1
   refine ⟨_, _, ?_, end0 rfl⟩
   first | rfl | (rw [List.take_length]) | simp only [List.take_length]
theorem heldStmt_d (kind : Int) (query_distinct : Bool) (query_items : List Item) (query_from_ : List Source) (query_where_ : List Expr) (query_order : List SortKey) (query_limit : Int) (table : ByteArray) (rows : List ERow) (cols : List ByteArray) (sets : List Expr) (where_ : List Expr) (q : Int) (h0 : 0 ≤ q) (h1 : q + (cnL cnItem query_items : Int) + (cnL cnSource query_from_ : Int) + (cnL cnExpr query_where_ : Int) + (cnL cnSortKey query_order : Int) + (cnL cnERow rows : Int) + (cnL (fun _ => 1) cols : Int) + (cnL cnExpr sets : Int) + (cnL cnExpr where_ : Int) ≤ 4611686018427387904) : Cl Tryz.prog 28 [.ag (csOf (Stmt.mk kind (Query.mk query_distinct (mkL mkItem cnItem (q) query_items) (mkL mkSource cnSource (q + (cnL cnItem query_items : Int)) query_from_) (mkL mkExpr cnExpr (q + (cnL cnItem query_items : Int) + (cnL cnSource query_from_ : Int)) query_where_) (mkL mkSortKey cnSortKey (q + (cnL cnItem query_items : Int) + (cnL cnSource query_from_ : Int) + (cnL cnExpr query_where_ : Int)) query_order) query_limit) table (mkL mkERow cnERow (q + (cnL cnItem query_items : Int) + (cnL cnSource query_from_ : Int) + (cnL cnExpr query_where_ : Int) + (cnL cnSortKey query_order : Int)) rows) (mkL (fun k _ => mtext k) (fun _ => 1) (q + (cnL cnItem query_items : Int) + (cnL cnSource query_from_ : Int) + (cnL cnExpr query_where_ : Int) + (cnL cnSortKey query_order : Int) + (cnL cnERow rows : Int)) cols) (mkL mkExpr cnExpr (q + (cnL cnItem query_items : Int) + (cnL cnSource query_from_ : Int) + (cnL cnExpr query_where_ : Int) + (cnL cnSortKey query_order : Int) + (cnL cnERow rows : Int) + (cnL (fun _ => 1) cols : Int)) sets) (mkL mkExpr cnExpr (q + (cnL cnItem query_items : Int) + (cnL cnSource query_from_ : Int) + (cnL cnExpr query_where_ : Int) + (cnL cnSortKey query_order : Int) + (cnL cnERow rows : Int) + (cnL (fun _ => 1) cols : Int) + (cnL cnExpr sets : Int)) where_)).row), vi q] [] fun r _ => r = vi (q + (cnL cnItem query_items : Int) + (cnL cnSource query_from_ : Int) + (cnL cnExpr query_where_ : Int) + (cnL cnSortKey query_order : Int) + (cnL cnERow rows : Int) + (cnL (fun _ => 1) cols : Int) + (cnL cnExpr sets : Int) + (cnL cnExpr where_ : Int)) := by
 have hq := heldQuery_d query_distinct query_items query_from_ query_where_ query_order query_limit q h0 (by omega)
 simp only [Stmt.row_mk, Query.row_mk, List.cons_append, List.nil_append, mkL_len] at hq ⊢
 refine cl_of_d follows_mixed false Tryz.func28 rfl (by kernel_rfl) ?_
 simp only [Tryz.f28, tt, seval]
 refine call0 (hq) ?_ ?_ ?_
 ·decide
 ·simp only [tt, seval, Stmt.row_mk, Query.row_mk, List.cons_append, List.nil_append, mkL_len]
 rintro r rfl
 simp only [tt, seval, Stmt.row_mk, Query.row_mk, List.cons_append, List.nil_append, mkL_len]
 have ng0 : decide (q + (cnL cnItem query_items : Int) + (cnL cnSource query_from_ : Int) + (cnL cnExpr query_where_ : Int) + (cnL cnSortKey query_order : Int) < 0) = false := decide_eq_false (by omega)
 have np0 : (q + (cnL cnItem query_items : Int) + (cnL cnSource query_from_ : Int) + (cnL cnExpr query_where_ : Int) + (cnL cnSortKey query_order : Int) < 0) = False := eq_false (by omega)
 try simp only [tt, seval, ng0, np0, Stmt.row_mk, Query.row_mk, List.cons_append, List.nil_append, mkL_len]
 refine call0 (heldERows_d rows (q + (cnL cnItem query_items : Int) + (cnL cnSource query_from_ : Int) + (cnL cnExpr query_where_ : Int) + (cnL cnSortKey query_order : Int)) (by omega) (by omega)) ?_ ?_ ?_
 ·decide
 ·simp only [tt, seval, Stmt.row_mk, Query.row_mk, List.cons_append, List.nil_append, mkL_len]
 rintro r rfl
 simp only [tt, seval, Stmt.row_mk, Query.row_mk, List.cons_append, List.nil_append, mkL_len]
 have ng1 : decide (q + (cnL cnItem query_items : Int) + (cnL cnSource query_from_ : Int) + (cnL cnExpr query_where_ : Int) + (cnL cnSortKey query_order : Int) + (cnL cnERow rows : Int) < 0) = false := decide_eq_false (by omega)
 have np1 : (q + (cnL cnItem query_items : Int) + (cnL cnSource query_from_ : Int) + (cnL cnExpr query_where_ : Int) + (cnL cnSortKey query_order : Int) + (cnL cnERow rows : Int) < 0) = False := eq_false (by omega)
 try simp only [tt, seval, ng1, np1, Stmt.row_mk, Query.row_mk, List.cons_append, List.nil_append, mkL_len]
 refine call0 (heldStrings_d cols (q + (cnL cnItem query_items : Int) + (cnL cnSource query_from_ : Int) + (cnL cnExpr query_where_ : Int) + (cnL cnSortKey query_order : Int) + (cnL cnERow rows : Int)) (by omega) (by omega)) ?_ ?_ ?_
 ·decide
 ·simp only [tt, seval, Stmt.row_mk, Query.row_mk, List.cons_append, List.nil_append, mkL_len]
 rintro r rfl
 simp only [tt, seval, Stmt.row_mk, Query.row_mk, List.cons_append, List.nil_append, mkL_len]
 have ng2 : decide (q + (cnL cnItem query_items : Int) + (cnL cnSource query_from_ : Int) + (cnL cnExpr query_where_ : Int) + (cnL cnSortKey query_order : Int) + (cnL cnERow rows : Int) + (cnL (fun _ => 1) cols : Int) < 0) = false := decide_eq_false (by omega)
 have np2 : (q + (cnL cnItem query_items : Int) + (cnL cnSource query_from_ : Int) + (cnL cnExpr query_where_ : Int) + (cnL cnSortKey query_order : Int) + (cnL cnERow rows : Int) + (cnL (fun _ => 1) cols : Int) < 0) = False := eq_false (by omega)
 try simp only [tt, seval, ng2, np2, Stmt.row_mk, Query.row_mk, List.cons_append, List.nil_append, mkL_len]
 refine call0 (heldExprs_d sets (q + (cnL cnItem query_items : Int) + (cnL cnSource query_from_ : Int) + (cnL cnExpr query_where_ : Int) + (cnL cnSortKey query_order : Int) + (cnL cnERow rows : Int) + (cnL (fun _ => 1) cols : Int)) (by omega) (by omega)) ?_ ?_ ?_
 ·decide
 ·simp only [tt, seval, Stmt.row_mk, Query.row_mk, List.cons_append, List.nil_append, mkL_len]
 rintro r rfl
 simp only [tt, seval, Stmt.row_mk, Query.row_mk, List.cons_append, List.nil_append, mkL_len]
 have ng3 : decide (q + (cnL cnItem query_items : Int) + (cnL cnSource query_from_ : Int) + (cnL cnExpr query_where_ : Int) + (cnL cnSortKey query_order : Int) + (cnL cnERow rows : Int) + (cnL (fun _ => 1) cols : Int) + (cnL cnExpr sets : Int) < 0) = false := decide_eq_false (by omega)
 have np3 : (q + (cnL cnItem query_items : Int) + (cnL cnSource query_from_ : Int) + (cnL cnExpr query_where_ : Int) + (cnL cnSortKey query_order : Int) + (cnL cnERow rows : Int) + (cnL (fun _ => 1) cols : Int) + (cnL cnExpr sets : Int) < 0) = False := eq_false (by omega)
 try simp only [tt, seval, ng3, np3, Stmt.row_mk, Query.row_mk, List.cons_append, List.nil_append, mkL_len]
 refine call0 (heldExprs_d where_ (q + (cnL cnItem query_items : Int) + (cnL cnSource query_from_ : Int) + (cnL cnExpr query_where_ : Int) + (cnL cnSortKey query_order : Int) + (cnL cnERow rows : Int) + (cnL (fun _ => 1) cols : Int) + (cnL cnExpr sets : Int)) (by omega) (by omega)) ?_ ?_ ?_
 ·decide
 ·simp only [tt, seval, Stmt.row_mk, Query.row_mk, List.cons_append, List.nil_append, mkL_len]
 rintro r rfl
 simp only [tt, seval, Stmt.row_mk, Query.row_mk, List.cons_append, List.nil_append, mkL_len]
 have ng4 : decide (q + (cnL cnItem query_items : Int) + (cnL cnSource query_from_ : Int) + (cnL cnExpr query_where_ : Int) + (cnL cnSortKey query_order : Int) + (cnL cnERow rows : Int) + (cnL (fun _ => 1) cols : Int) + (cnL cnExpr sets : Int) + (cnL cnExpr where_ : Int) < 0) = false := decide_eq_false (by omega)
 have np4 : (q + (cnL cnItem query_items : Int) + (cnL cnSource query_from_ : Int) + (cnL cnExpr query_where_ : Int) + (cnL cnSortKey query_order : Int) + (cnL cnERow rows : Int) + (cnL (fun _ => 1) cols : Int) + (cnL cnExpr sets : Int) + (cnL cnExpr where_ : Int) < 0) = False := eq_false (by omega)
 try simp only [tt, seval, ng4, np4, Stmt.row_mk, Query.row_mk, List.cons_append, List.nil_append, mkL_len]
 exact ⟨_, _, rfl, end0 rfl⟩
theorem eqStmt_d (s : Stmt) : Cl Tryz.prog 26 [.ag (csOf s.row), .ag (csOf s.row)] [] fun r _ => r = vb true := by
 obtain ⟨kind, q, table, rows, cols, sets, where2⟩ := s
 exact eqStmt_step kind q table rows cols sets where2
end Go.Proofs.YteffjmaadkkmeaaGreatDoor
set_option maxRecDepth 8000
namespace Go.Proofs.YteffjmaadkkmeaaGreatDoor
open Go Go.Dv
open Go.Vc (D shrI xorI andI and255)
section
variable {L : List Tok} {f : Nat → PM Expr} {q : PM Query}
theorem Wt.row (hf : ∀ lv, Wt (f lv) cnExpr 8) : Wt (rowM L f) cnERow 9 := fun s x s' h => by
 unfold rowM at h
 split at h
 ·cases h
 ·rename_i y s1 h1
  injection h with h; injection h with hx h; subst hx h
  have a1 := Wt.ors hf _ _ _ h1
  have m1 := must_a (isSg L s 40) s
  have m2 := must_a (isSg L s1 41) s1
  (try simp only [cnStmt_mk, cnERow_mk, cnQuery_mk, cnL, cnL_app, adv_a, fl_a, zStmt, zQuery] at *); omega
theorem Wt.rows (hf : ∀ lv, Wt (f lv) cnExpr 8) : Wt (rowsM L f) (cnL cnERow) 9 := fun s x s' h => by
 unfold rowsM at h
 split at h
 ·cases h
 ·rename_i y s1 h1
  have a1 := Wt.row hf _ _ _ h1
  have a2 := Wt.sep (by omega) (Wt.row hf) _ _ _ _ _ h
  (try simp only [cnStmt_mk, cnERow_mk, cnQuery_mk, cnL, cnL_app, adv_a, fl_a, zStmt, zQuery] at *); omega
def cnSet (x : ByteArray × Expr) : Nat := 1 + cnExpr x.2
theorem Wt.set1 (hf : ∀ lv, Wt (f lv) cnExpr 8) : Wt (setM L f) cnSet 9 := fun s x s' h => by
 unfold setM at h
 simp only at h
 split at h
 ·cases h
 ·rename_i y s1 h1
  injection h with h; injection h with hx h; subst hx h
  have m1 := mText_a (L := L) 2 s
  have m2 := must_a (isSg L (mText L 2 s).2 61) (mText L 2 s).2
  have a1 := hf 1 _ _ _ h1
  show 1 + cnExpr y + 64 * s.a ≤ 9 + 64 * s1.a
  omega
theorem Wt.sets (hf : ∀ lv, Wt (f lv) cnExpr 8) : Wt (setsM L f) (cnL cnSet) 9 := fun s x s' h => by
 unfold setsM at h
 split at h
 ·cases h
 ·rename_i y s1 h1
  have a1 := Wt.set1 hf _ _ _ h1
  have a2 := Wt.sep (by omega) (Wt.set1 hf) _ _ _ _ _ h
  (try simp only [cnStmt_mk, cnERow_mk, cnQuery_mk, cnL, cnL_app, adv_a, fl_a, zStmt, zQuery] at *); omega
theorem cnL_sets : ∀ l : List (ByteArray × Expr), cnL (fun _ => 1) (l.map (·.1)) + cnL cnExpr (l.map (·.2)) = cnL cnSet l
 | [] => rfl
 | x :: r => by
  have := cnL_sets r
  simp only [List.map_cons, cnL, cnSet] at *
  omega
theorem zq_cn : cnQuery zQuery = 2 := by decide
theorem cnStmt_eq (k : Int) (q : Query) (t : ByteArray) (r : List ERow) (c : List ByteArray) (e w : List Expr) : cnStmt (.mk k q t r c e w) = 2 + cnQuery q + (cnL cnERow r + (cnL (fun _ => 1) c + cnL cnExpr e) + cnL cnExpr w) := by
 obtain ⟨a, b, c, d, e, f⟩ := q
 rw [cnStmt_mk, cnQuery_mk]; omega
theorem Wt.stmt (hf : ∀ lv, Wt (f lv) cnExpr 8) (hq : Wt q cnQuery 15) : Wt (stmtM L f q) cnStmt 40 := fun s x s' h => by
 unfold stmtM at h
 split at h
 ·split at h
  ·cases h
  rename_i y s1 h1
  injection h with h; injection h with hx h; subst hx h
  have a1 := hq _ _ _ h1
  rw [cnStmt_eq]
  simp only [cnL]; omega
 split at h
 ·unfold insertM at h
  simp only at h
  have m1 := must_a (isKey L (adv s) 24) (adv s)
  generalize must (isKey L (adv s) 24) (adv s) = u1 at *
  have m2 := mText_a (L := L) 2 u1
  generalize (mText L 2 u1).2 = u2 at *
  have m3 := must_a (isKey L u2 25) u2
  split at h
  ·cases h
  rename_i y s1 h1
  injection h with h; injection h with hx h; subst hx h
  have a1 := Wt.rows hf _ _ _ h1
  rw [cnStmt_eq, zq_cn]
  rw [adv_a] at m1
  simp only [cnL]; omega
 split at h
 ·unfold updateM at h
  simp only at h
  have m1 := mText_a (L := L) 2 (adv s)
  generalize (mText L 2 (adv s)).2 = u1 at *
  have m2 := must_a (isKey L u1 27) u1
  split at h
  ·cases h
  rename_i y s1 h1
  split at h
  ·cases h
  rename_i z s2 h2
  injection h with h; injection h with hx h; subst hx h
  have a1 := Wt.sets hf _ _ _ h1
  have a2 := Wt.wher hf _ _ _ h2
  rw [cnStmt_eq, zq_cn, cnL_sets]
  rw [adv_a] at m1
  simp only [cnL]; omega
 split at h
 ·unfold deleteM at h
  simp only at h
  have m1 := must_a (isKey L (adv s) 3) (adv s)
  generalize must (isKey L (adv s) 3) (adv s) = u1 at *
  have m2 := mText_a (L := L) 2 u1
  generalize (mText L 2 u1).2 = u2 at *
  split at h
  ·cases h
  rename_i y s1 h1
  injection h with h; injection h with hx h; subst hx h
  have a1 := Wt.wher hf _ _ _ h1
  rw [cnStmt_eq, zq_cn]
  rw [adv_a] at m1
  simp only [cnL]; omega
 ·injection h with h; injection h with hx h; subst hx h
  show cnStmt zStmt + 64 * s.a ≤ 40 + 64 * s.a
  have : cnStmt zStmt ≤ 40 := by decide
  omega
theorem takeS_cn (hL : L.length ≤ 1048576) : cnStmt (takeS L).1 ≤ 100000000 := by
 unfold takeS
 cases h : stmtM L (pExpr L) (pQuery L) s0 with
 | none => exact (by decide : cnStmt zStmt ≤ 100000000)
 | some p =>
  obtain ⟨x, s⟩ := p
  have h1 := Wt.stmt (pP_wt (L := L) (pD L)).1 (pP_wt (L := L) (pD L)).2 _ _ _ h
  have h2 := (OkM.stmt (fun lv => pExpr_ok (L := L) lv) pQuery_ok _ _ _ h).2.1 (Nat.zero_le _)
  unfold takeM
  simp only
  split
  ·exact (by decide : cnStmt zStmt ≤ 100000000)
  ·show cnStmt x ≤ _
   omega
end
end Go.Proofs.YteffjmaadkkmeaaGreatDoor
set_option maxRecDepth 8000
namespace Go.Proofs.YteffjmaadkkmeaaGreatDoor
open Go Go.Dv Go.Cv
open Go.Vc (D shrI xorI andI and255)
theorem prow_step (L : List Tok) (hL : L.length ≤ 1048576) (hT : ∀ t ∈ L, t.text.size ≤ 1048576) {f : Nat → PM Expr} (ok : ∀ lv, OkM (L := L) (f lv)) (hf1 : TpE L 42 (f 1)) (s : PS) (x : List Expr) (s' : PS) (h : rowM L f s = some (ERow.mk x, s')) (ha : s.a ≤ L.length) : Cl Tryz.prog 116 [.c (.p 9000 0)] [PB L s] fun r os => (∃ F, r = .c (.ow 29 x.length (x.flatMap Expr.row) (some F))) ∧ os = [PB L s'] := by
 unfold rowM at h
 split at h
 ·cases h
 rename_i l t hl
 obtain ⟨rfl, rfl⟩ : l = x ∧ must (isSg L t 41) t = s' := by
  injection h with h; injection h with h1 h2; injection h1 with h1; exact ⟨h1, h2⟩
 clear h
 have o1 : Ok L s (must (isSg L s 40) s) := Ok.must fun h => isSg_lt h
 have ha1 := o1.2.1 ha
 have cl := pors_step L hL hT (ok 1) hf1 _ _ _ hl ha1
 have ha2 := (OkM.ors ok _ _ _ hl).2.1 ha1
 refine cl_of_d follows_mixed true Tryz.func116 rfl (by kernel_rfl) ?_
 simp only [Tryz.f116, tt, seval]
 refine CallQ.intro (pmustSign_d L hL hT s 40 ha) ?_ ?_ ?_
 ·decide
 ·simp only [tt, seval, PB]
 rintro r os ⟨rfl, rfl⟩ hos
 simp only [tt, seval, PB]
 generalize must (isSg L s 40) s = u at *
 refine CallQ.intro (cl) ?_ ?_ ?_
 ·decide
 ·simp only [tt, seval, PB]
 rintro r os ⟨⟨hlen, F, rfl⟩, rfl⟩ hos
 simp only [tt, seval, PB]
 refine CallQ.intro (pmustSign_d L hL hT t 41 ha2) ?_ ?_ ?_
 ·decide
 ·simp only [tt, seval, PB]
 rintro r os ⟨rfl, rfl⟩ hos
 simp only [tt, seval, PB]
 refine ⟨.c (.ow 29 l.length (l.flatMap Expr.row) (some F)), [PB L (must (isSg L t 41) t)], ⟨⟨_, rfl⟩, rfl⟩, endOk ?_⟩
 simp only [tt, seval, PB]
 first | done | exact Sb.refl _ | exact pool_ok fun x => by simp only [List.flatten_append, List.flatten_cons, List.flatten_nil, List.count_append, List.append_nil, List.nil_append, List.count_nil]; omega | exact ⟨by omega, Sb.refl _⟩ | exact ⟨by omega, pool_ok fun x => by simp only [List.flatten_append, List.flatten_cons, List.flatten_nil, List.count_append, List.append_nil, List.nil_append, List.count_nil]; omega⟩
set_option maxHeartbeats 4000000 in
theorem pset_step (L : List Tok) (hL : L.length ≤ 1048576) (hT : ∀ t ∈ L, t.text.size ≤ 1048576) {f : Nat → PM Expr} (ok : ∀ lv, OkM (L := L) (f lv)) (hf1 : TpE L 42 (f 1)) (tab : ByteArray) (cs : List ByteArray) (es : List Expr) (hc : cs.length ≤ 1048580) (he : es.length ≤ 1048580) (Fs : List (List Nat)) (s : PS) (x : ByteArray × Expr) (s' : PS) (h : setM L f s = some (x, s')) (ha : s.a ≤ L.length) : ClT Tryz.prog 117 [.c (.p 9000 0), .c (.p 9001 0)] [PB L s, [.v (.int .i64 3), .v (.bool false), .v (.slice none 0 0), .v (.slice none 0 0), .v (.slice none 0 0), .v (.slice none 0 0), .v (.int .i64 0), .v (.string tab), .v (.slice none 0 0), .ow 9 (cs).length ((cs).flatMap srow) (some []), .ow 29 (es).length ((es).flatMap Expr.row) (some (Fs)), .v (.slice none 0 0)]] Fs.flatten fun r os => r = .tu [] ∧ ∃ F, os = [PB L s', [.v (.int .i64 3), .v (.bool false), .v (.slice none 0 0), .v (.slice none 0 0), .v (.slice none 0 0), .v (.slice none 0 0), .v (.int .i64 0), .v (.string tab), .v (.slice none 0 0), .ow 9 ((cs ++ [x.1])).length (((cs ++ [x.1])).flatMap srow) (some []), .ow 29 ((es ++ [x.2])).length (((es ++ [x.2])).flatMap Expr.row) (some (F)), .v (.slice none 0 0)]] := by
 unfold setM at h
 simp only at h
 have c1 := pmustKind_d L hL hT s 2 ha
 have ha1 := (Ok.mText (L := L) 2 s).2.1 ha
 generalize (mText L 2 s).2 = u at *
 generalize (mText L 2 s).1 = tx at *
 split at h
 ·cases h
 rename_i e t hx
 injection h with h; injection h with h1 h2; subst h1 h2
 have o3 : Ok L u (must (isSg L u 61) u) := Ok.must fun h => isSg_lt h
 have ha3 := o3.2.1 ha1
 have cS := pmustSign_d L hL hT u 61 ha1
 generalize must (isSg L u 61) u = u3 at *
 obtain ⟨k1, p1, n1, v1, q1, m1, ks1, ss1⟩ := e
 have c2 := hf1 _ _ _ hx ha3
 rw [Expr.row_mk] at c2
 have hA := flatMap_len Expr.row_len es
 have hT1 : ∀ Z, List.take (es.length * 10) (es.flatMap Expr.row ++ Z) = es.flatMap Expr.row := fun Z => List.take_left' hA
 have hT2 : ∀ a0 a1 a2 a3 a4 a5 a6 a7 a8 a9, List.drop (es.length * 10 + 10) (es.flatMap Expr.row ++ [a0, a1, a2, a3, a4, a5, a6, a7, a8, a9]) = [] := fun _ _ _ _ _ _ _ _ _ _ => List.drop_eq_nil_of_le (by simp [hA])
 have hT4 : ∀ a0 a1 a2 a3 a4 a5 a6 a7 a8 a9, (es.flatMap Expr.row ++ [a0, a1, a2, a3, a4, a5, a6, a7, a8, a9]).length = es.length * 10 + 10 := fun _ _ _ _ _ _ _ _ _ _ => by simp [hA]
 refine clT_of_d follows_mixed (some (Fs)) _ (fun ps h => by injection h with h; subst h; first | rfl | simp) Tryz.func117 rfl (by kernel_rfl) ?_
 simp only [Tryz.f117, tt, seval]
 apply dDrawn_j2 0 1
 case h1 =>
  refine dDrawn.intro [10] (.take 0 (.take 1 (.take 2 (.take 3 (.take 5 (.br 4 (.br 6 (.br 7 (.br 8 (.take 9 (.take 10 (.br 11 .done .nobr))) .nobr) .nobr) .nobr) (.br 6 (.take 4 (.br 7 (.br 8 (.take 9 (.take 10 (.br 11 .done .nobr))) .nobr) .nobr)) .nobr))))))) (by kernel_rfl) ?_
  simp only [tt, seval]
  all_goals try simp only [tt, seval, PB]
  all_goals repeat' first | refine brC ?_ ?_ | refine brC2 ?_ ?_
  all_goals
   refine CallQ.intro (c1) ?_ ?_ ?_
   ·decide
   ·simp only [tt, seval, PB]
    try decide
   rintro r os ⟨rfl, rfl⟩ hos
   simp only [tt, seval, PB]
  all_goals repeat' first | refine brA ?_ ?_ | refine brA2 ?_ ?_ | refine brA3 ?_ ?_
  all_goals
   refine ⟨by kernel_rfl, ⟨by simp only [maxLen]; omega, by omega⟩, ?_⟩
   try simp only [tt, seval]
  all_goals exact ⟨rfl, rfl, rfl, rfl⟩
 case h2 =>
  intro f' hj0 hj1
  try simp only [tt, seval, hj0, hj1]
  refine CallQ.intro (cS) ?_ ?_ ?_
  ·decide
  ·simp only [tt, seval, PB, hj0, hj1]
  rintro r os ⟨rfl, rfl⟩ hos
  simp only [tt, seval, PB, hj0, hj1]
  refine dDrawn.intro [22] (.take 0 (.take 1 (.take 2 (.take 4 (.br 3 (.take 6 (.br 5 (.br 7 (.br 8 (.take 9 (.take 11 (.take 12 (.br 10 (.br 13 .done .nobr) (.br 13 (.br 10 .done .nobr) .nobr))))) .nobr) .nobr) (.br 7 (.br 5 (.br 8 (.take 9 (.take 11 (.take 12 (.br 10 (.br 13 .done .nobr) (.br 13 (.br 10 .done .nobr) .nobr))))) .nobr) .nobr) .nobr))) (.br 5 (.take 3 (.take 6 (.br 7 (.br 8 (.take 9 (.take 11 (.take 12 (.br 10 (.br 13 .done .nobr) (.br 13 (.br 10 .done .nobr) .nobr))))) .nobr) .nobr))) (.br 7 (.br 3 (.take 6 (.br 5 (.br 8 (.take 9 (.take 11 (.take 12 (.br 10 (.br 13 .done .nobr) (.br 13 (.br 10 .done .nobr) .nobr))))) .nobr) .nobr)) (.br 5 (.take 3 (.take 6 (.br 8 (.take 9 (.take 11 (.take 12 (.br 10 (.br 13 .done .nobr) (.br 13 (.br 10 .done .nobr) .nobr))))) .nobr))) .nobr)) .nobr))))))) (by kernel_rfl) ?_
  simp only [tt, seval]
  all_goals try simp only [tt, seval, hj0, hj1]
  all_goals repeat' first | with_reducible refine And.intro ?_ ?_ | intro _
  all_goals
   refine CallQ.intro (c2) ?_ ?_ ?_
   ·decide
   ·simp only [tt, seval, PB, told, Val.row, List.cons_append, List.nil_append]
    try decide
   rintro r os ⟨⟨Gk, Gs, rfl⟩, rfl⟩ hos
   simp only [tt, seval, PB, told, Val.row, List.cons_append, List.nil_append]
  all_goals first | refine fun _ => ?_ | skip
  all_goals
   refine ⟨by kernel_rfl, ⟨by simp only [maxLen]; omega, by omega⟩, by omega, by omega, ?_⟩
   simp only [hT1, hT2, hT4, Nat.le_refl, true_and]
   all_goals repeat' first | with_reducible refine And.intro ?_ ?_ | exact Nat.le_refl _ | (show _ ≤ _; omega)
   all_goals refine ⟨_, [PB L t, [.v (.int .i64 3), .v (.bool false), .v (.slice none 0 0), .v (.slice none 0 0), .v (.slice none 0 0), .v (.slice none 0 0), .v (.int .i64 0), .v (.string tab), .v (.slice none 0 0), .ow 9 ((cs ++ [tx])).length (((cs ++ [tx])).flatMap srow) (some []), .ow 29 ((es ++ [(Expr.mk k1 p1 n1 v1 q1 m1 ks1 ss1)])).length (((es ++ [(Expr.mk k1 p1 n1 v1 q1 m1 ks1 ss1)])).flatMap Expr.row) (some (apF Fs (Gk ++ Gs))), .v (.slice none 0 0)]], ⟨rfl, _, rfl⟩, endOk ?_⟩
   all_goals simp only [tt, seval, PB, srow, told, Val.row, List.cons_append, List.nil_append, bae, PB, mLit, mCol, mKids, mUn, mBin, zExpr, zVal, z0, Expr.row_mk, Query.row_mk, List.flatMap_nil, List.flatMap_cons, List.append_nil, List.length_nil, List.length_cons, Val.row, List.flatMap_append, List.length_append, Stmt.row_mk, Query.row_mk]
   all_goals exact pool_ok fun x => by rw [apF_flat]; simp only [List.flatten_append, List.flatten_cons, List.flatten_nil, List.count_append, List.append_nil, List.nil_append, List.count_nil]; omega
def TpS (L : List Tok) (fn : FuncId) (m : PM Stmt) : Prop := ∀ s e s', m s = some (e, s') → s.a ≤ L.length → Cl Tryz.prog fn [.c (.p 9000 0)] [PB L s] fun r os => (∃ Fi Ff Fw Fo Fr Fc Fe Fx, r = .ag (told (e).row [Fi, Ff, Fw, Fo, Fr, Fc, Fe, Fx])) ∧ os = [PB L s']
set_option maxHeartbeats 16000000 in
theorem pstmt_step (L : List Tok) (hL : L.length ≤ 1048576) (hT : ∀ t ∈ L, t.text.size ≤ 1048576) {f : Nat → PM Expr} {q : PM Query} (ok : ∀ lv, OkM (L := L) (f lv)) (okq : OkM (L := L) q) (hf1 : TpE L 42 (f 1)) (hq : TpQ L 54 q) : TpS L 65 (stmtM L f q) := by
 intro s x s' h ha
 unfold stmtM at h
 refine cl_of_d follows_mixed true Tryz.func65 rfl (by kernel_rfl) ?_
 simp only [Tryz.f65, tt, seval]
 refine CallQ.intro (pisKey_d L hL hT s 1 ⟨#[83, 69, 76, 69, 67, 84]⟩ (by kernel_rfl) ha) ?_ ?_ ?_
 ·decide
 ·simp only [tt, seval, PB]
 rintro r os ⟨rfl, rfl⟩ hos
 simp only [tt, seval, PB]
 cases c1 : isKey L s 1 with
 | true =>
  rw [if_pos c1] at h
  split at h
  ·cases h
  rename_i y s1 hy
  injection h with h; injection h with h1 h2; subst h1 h2
  have cq := hq _ _ _ hy ha
  obtain ⟨d1, i1, f1, w1, o1, l1⟩ := y
  rw [Query.row_mk] at cq
  simp only [tt, seval]
  refine CallQ.intro (cq) ?_ ?_ ?_
  ·decide
  ·simp only [tt, seval, PB, told, List.cons_append, List.nil_append]
  rintro r os ⟨⟨Fi, Ff, Fw, Fo, rfl⟩, rfl⟩ hos
  simp only [tt, seval, PB, told, List.cons_append, List.nil_append]
  refine ⟨.ag (told (Stmt.mk 1 (Query.mk d1 i1 f1 w1 o1 l1) z0 [] [] [] []).row [Fi, Ff, Fw, Fo, [], [], [], []]), [PB L (s1)], ⟨⟨Fi, Ff, Fw, Fo, [], [], [], [], by first | rfl | simp only [Stmt.row_mk, Query.row_mk, zStmt, zQuery, ERow.row_mk, srow, bae, PB, mLit, mCol, mKids, mUn, mBin, zExpr, zVal, z0, Expr.row_mk, Query.row_mk, List.flatMap_nil, List.flatMap_cons, List.append_nil, List.length_nil, List.length_cons, told, Val.row, List.cons_append, List.nil_append]⟩, rfl⟩, endOk ?_⟩
  simp only [tt, seval, Stmt.row_mk, Query.row_mk, zStmt, zQuery, ERow.row_mk, srow, bae, PB, mLit, mCol, mKids, mUn, mBin, zExpr, zVal, z0, Expr.row_mk, Query.row_mk, List.flatMap_nil, List.flatMap_cons, List.append_nil, List.length_nil, List.length_cons, told, Val.row, List.cons_append, List.nil_append, List.length_map, z0]
  first | done | exact pool_ok fun x => by simp only [List.flatten_append, List.flatten_cons, List.flatten_nil, List.count_append, List.append_nil, List.nil_append, List.count_nil]; omega | exact ⟨by omega, Sb.refl _⟩ | exact ⟨by omega, pool_ok fun x => by simp only [List.flatten_append, List.flatten_cons, List.flatten_nil, List.count_append, List.append_nil, List.nil_append, List.count_nil]; omega⟩
 | false =>
 rw [if_neg (by rw [c1]; simp)] at h
 simp only [tt, seval, Bool.false_eq_true]
 refine CallQ.intro (ptakeKey_d L hL hT s 23 ⟨#[73, 78, 83, 69, 82, 84]⟩ (by kernel_rfl) ha) ?_ ?_ ?_
 ·decide
 ·simp only [tt, seval, PB]
 rintro r os ⟨rfl, rfl⟩ hos
 simp only [tt, seval, PB]
 cases c23 : isKey L s 23 with
 | true =>
  rw [if_pos c23] at h
  have hav := adv_le (L := L) (isKey_lt c23)
  unfold insertM at h
  simp only at h
  simp only [tt, seval, tkT, tkF, muT, muF]
  refine CallQ.intro (pmustKey_d L hL hT (adv s) 24 ⟨#[73, 78, 84, 79]⟩ (by kernel_rfl) hav) ?_ ?_ ?_
  ·decide
  ·simp only [tt, seval, PB]
  rintro r os ⟨rfl, rfl⟩ hos
  simp only [tt, seval, PB]
  have o1 : Ok L (adv s) (must (isKey L (adv s) 24) (adv s)) := Ok.must fun h => isKey_lt h
  have ha1 := o1.2.1 hav
  generalize must (isKey L (adv s) 24) (adv s) = u1 at *
  refine CallQ.intro (pmustKind_d L hL hT u1 2 ha1) ?_ ?_ ?_
  ·decide
  ·simp only [tt, seval, PB]
  rintro r os ⟨rfl, rfl⟩ hos
  simp only [tt, seval, PB]
  have ha2 := (Ok.mText (L := L) 2 u1).2.1 ha1
  generalize (mText L 2 u1).2 = u2 at *
  generalize (mText L 2 u1).1 = tab at *
  refine CallQ.intro (pmustKey_d L hL hT u2 25 ⟨#[86, 65, 76, 85, 69, 83]⟩ (by kernel_rfl) ha2) ?_ ?_ ?_
  ·decide
  ·simp only [tt, seval, PB]
  rintro r os ⟨rfl, rfl⟩ hos
  simp only [tt, seval, PB]
  have o3 : Ok L u2 (must (isKey L u2 25) u2) := Ok.must fun h => isKey_lt h
  have ha3 := o3.2.1 ha2
  generalize must (isKey L u2 25) u2 = u3 at *
  split at h
  ·cases h
  rename_i rs s3 hrs
  injection h with h; injection h with h1 h2; subst h1 h2
  unfold rowsM at hrs
  split at hrs
  ·cases hrs
  rename_i r1 v1 hr1
  obtain ⟨l1⟩ := r1
  have c1 := prow_step L hL hT ok hf1 _ _ _ hr1 ha3
  have hav1 := (OkM.row ok _ _ _ hr1).2.1 ha3
  refine CallQ.intro (c1) ?_ ?_ ?_
  ·decide
  ·simp only [tt, seval, PB]
  rintro r os ⟨⟨F1, rfl⟩, rfl⟩ hos
  simp only [tt, seval, PB]
  refine fun G1 => ?_
  refine dLoop.gh [.ren 28 37] ⟨by decide, by decide, ?_⟩
  refine dLoop0.intro (fun f' Lo p => ∃ (m : List ERow) (v : PS) (n : Nat) (Fm Pl : List (List Nat)), sepM L (rowM L f) n m v = some (rs, s3) ∧ v.a ≤ L.length ∧ m.length ≤ v.a + 1 ∧ Sb Fm.flatten Pl.flatten ∧ Lo = [(9000, .str (PB L v)), (3, .str [.v (.int .i64 2), .v (.bool false), .v (.slice none 0 0), .v (.slice none 0 0), .v (.slice none 0 0), .v (.slice none 0 0), .v (.int .i64 0), .v (.string tab), .s 37 (m).length, .v (.slice none 0 0), .v (.slice none 0 0), .v (.slice none 0 0)]), (37, .arr 26 (m).length ((m).flatMap ERow.row) (some (Fm))), (2, .str [.v (.int .i64 0), .v (.bool false), .v (.slice none 0 0), .v (.slice none 0 0), .v (.slice none 0 0), .v (.slice none 0 0), .v (.int .i64 0), .v (.string ByteArray.empty), .v (.slice none 0 0), .v (.slice none 0 0), .v (.slice none 0 0), .v (.slice none 0 0)])] ∧ p = some Pl) (fun _ Lo _ => L.length - atS Lo) [(9000, .str (PB L v1)), (3, .str [.v (.int .i64 2), .v (.bool false), .v (.slice none 0 0), .v (.slice none 0 0), .v (.slice none 0 0), .v (.slice none 0 0), .v (.int .i64 0), .v (.string tab), .s 37 ([ERow.mk l1]).length, .v (.slice none 0 0), .v (.slice none 0 0), .v (.slice none 0 0)]), (37, .arr 26 ([ERow.mk l1]).length (([ERow.mk l1]).flatMap ERow.row) (some (G1 :: F1))), (2, .str [.v (.int .i64 0), .v (.bool false), .v (.slice none 0 0), .v (.slice none 0 0), .v (.slice none 0 0), .v (.slice none 0 0), .v (.int .i64 0), .v (.string ByteArray.empty), .v (.slice none 0 0), .v (.slice none 0 0), .v (.slice none 0 0), .v (.slice none 0 0)])] (some (G1 :: F1)) ⟨by simp only [Stmt.row_mk, Query.row_mk, zStmt, zQuery, ERow.row_mk, srow, bae, PB, mLit, mCol, mKids, mUn, mBin, zExpr, zVal, z0, Expr.row_mk, Query.row_mk, List.flatMap_nil, List.flatMap_cons, List.append_nil, List.length_nil, List.length_cons, Val.row, List.cons_append, List.nil_append, List.flatMap_append, List.length_append]; exact SubO.cons rfl (SubO.cons rfl (SubO.cons rfl (SubO.cons rfl (SubO.nil _)))), PoSub.refl _, ?_⟩ ?_
  ·simp only [tt, seval]
   exact ⟨[ERow.mk l1], v1, L.length + 1, G1 :: F1, G1 :: F1, hrs, hav1, by simp, Sb.refl _, rfl, rfl⟩
  ·rintro g' Lo p ⟨m, v, n, Fm, Pl, hm, hv, hml, hsb, rfl, rfl⟩
   try simp only [tt, seval]
   refine CallQ.intro (ptakeSign_d L hL hT v 44 hv) ?_ ?_ ?_
   ·decide
   ·simp only [tt, seval, PB]
   rintro r os ⟨rfl, rfl⟩ hos
   simp only [tt, seval, PB]
   cases n with
   | zero => cases hm
   | succ n =>
   rw [sepM] at hm
   cases c44 : isSg L v 44 with
   | true =>
    rw [if_pos c44] at hm
    split at hm
    ·cases hm
    rename_i z w hz
    have hlt := (isSg_lt c44).2
    have hav := adv_le (L := L) (isSg_lt c44)
    have o3 := OkM.row ok _ _ _ hz
    have o3a : v.a + 1 ≤ w.a := o3.1
    have hw := o3.2.1 hav
    obtain ⟨l2⟩ := z
    have c2 := prow_step L hL hT ok hf1 _ _ _ hz hav
    simp only [tt, seval, tkT, tkF, muT, muF]
    refine dDrawn.intro [35] (.take 0 (.take 2 (.br 1 (.br 3 (.br 4 (.br 5 (.take 6 (.br 7 .done .nobr)) .nobr) .nobr) .nobr) (.br 3 (.take 1 (.br 4 (.br 5 (.take 6 (.br 7 .done .nobr)) .nobr) .nobr)) .nobr)))) (by kernel_rfl) ?_
    simp only [tt, seval]
    all_goals repeat' first | refine brC ?_ ?_ | refine brC2 ?_ ?_
    all_goals
     refine CallQ.intro (c2) ?_ ?_ ?_
     ·decide
     ·simp only [tt, seval, PB]
      try decide
     rintro r os ⟨⟨F2, rfl⟩, rfl⟩ hos
     simp (config := { maxSteps := 10000000 }) only [tt, seval, PB]
    all_goals repeat' first | refine brA ?_ ?_ | refine brA2 ?_ ?_ | refine brA3 ?_ ?_
    all_goals
     refine fun G2 => ?_
     refine ⟨by kernel_rfl, ⟨by simp only [maxLen]; omega, by omega⟩, ?_⟩
     try simp only [tt, seval]
    all_goals
     refine ⟨[(9000, .str (PB L w)), (3, .str [.v (.int .i64 2), .v (.bool false), .v (.slice none 0 0), .v (.slice none 0 0), .v (.slice none 0 0), .v (.slice none 0 0), .v (.int .i64 0), .v (.string tab), .s 37 ((m ++ [ERow.mk l2])).length, .v (.slice none 0 0), .v (.slice none 0 0), .v (.slice none 0 0)]), (37, .arr 26 ((m ++ [ERow.mk l2])).length (((m ++ [ERow.mk l2])).flatMap ERow.row) (some (Fm ++ (G2 :: F2)))), (2, .str [.v (.int .i64 0), .v (.bool false), .v (.slice none 0 0), .v (.slice none 0 0), .v (.slice none 0 0), .v (.slice none 0 0), .v (.int .i64 0), .v (.string ByteArray.empty), .v (.slice none 0 0), .v (.slice none 0 0), .v (.slice none 0 0), .v (.slice none 0 0)])], some (G2 :: (Pl ++ F2)), by simp only [Stmt.row_mk, Query.row_mk, zStmt, zQuery, ERow.row_mk, srow, bae, PB, mLit, mCol, mKids, mUn, mBin, zExpr, zVal, z0, Expr.row_mk, Query.row_mk, List.flatMap_nil, List.flatMap_cons, List.append_nil, List.length_nil, List.length_cons, Val.row, List.cons_append, List.nil_append, List.flatMap_append, List.length_append]; exact SubO.cons rfl (SubO.cons rfl (SubO.cons rfl (SubO.cons rfl (SubO.nil _)))), PoSub.refl _, ⟨m ++ [ERow.mk l2], w, n, _, _, hm, hw, by simp; omega, fun x => by have := hsb x; simp only [List.flatten_append, List.flatten_cons, List.flatten_nil, List.count_append, List.append_nil, List.nil_append, List.count_nil] at this ⊢; omega, rfl, rfl⟩, ?_⟩
     show L.length - ((w.a : Int)).toNat < L.length - ((v.a : Int)).toNat
     omega
   | false =>
    rw [if_neg (by rw [c44]; simp)] at hm
    injection hm with hm; injection hm with e1 e2; subst e1 e2
    simp only [tt, seval, tkT, tkF, muT, muF, Bool.false_eq_true]
    refine fun G => ?_
    refine ⟨.ag (told (Stmt.mk 2 zQuery tab m [] [] []).row [[], [], [], [], G :: Fm, [], [], []]), [PB L (v)], ⟨⟨[], [], [], [], G :: Fm, [], [], [], by first | rfl | simp only [Stmt.row_mk, Query.row_mk, zStmt, zQuery, ERow.row_mk, srow, bae, PB, mLit, mCol, mKids, mUn, mBin, zExpr, zVal, z0, Expr.row_mk, Query.row_mk, List.flatMap_nil, List.flatMap_cons, List.append_nil, List.length_nil, List.length_cons, told, Val.row, List.cons_append, List.nil_append]⟩, rfl⟩, endOk ?_⟩
    simp only [tt, seval, Stmt.row_mk, Query.row_mk, zStmt, zQuery, ERow.row_mk, srow, bae, PB, mLit, mCol, mKids, mUn, mBin, zExpr, zVal, z0, Expr.row_mk, Query.row_mk, List.flatMap_nil, List.flatMap_cons, List.append_nil, List.length_nil, List.length_cons, told, Val.row, List.cons_append, List.nil_append, List.length_map, z0]
    exact pool_ok fun x => by have := hsb x; simp only [List.flatten_append, List.flatten_cons, List.flatten_nil, List.count_append, List.append_nil, List.nil_append, List.count_nil] at this ⊢; omega
 | false =>
 rw [if_neg (by rw [c23]; simp)] at h
 simp only [tt, seval, tkT, tkF, muT, muF, Bool.false_eq_true]
 refine CallQ.intro (ptakeKey_d L hL hT s 26 ⟨#[85, 80, 68, 65, 84, 69]⟩ (by kernel_rfl) ha) ?_ ?_ ?_
 ·decide
 ·simp only [tt, seval, PB]
 rintro r os ⟨rfl, rfl⟩ hos
 simp only [tt, seval, PB]
 cases c26 : isKey L s 26 with
 | true =>
  rw [if_pos c26] at h
  have hav := adv_le (L := L) (isKey_lt c26)
  unfold updateM at h
  simp only at h
  simp only [tt, seval, tkT, tkF, muT, muF]
  refine CallQ.intro (pmustKind_d L hL hT (adv s) 2 hav) ?_ ?_ ?_
  ·decide
  ·simp only [tt, seval, PB]
  rintro r os ⟨rfl, rfl⟩ hos
  simp only [tt, seval, PB]
  have ha1 := (Ok.mText (L := L) 2 (adv s)).2.1 hav
  generalize (mText L 2 (adv s)).2 = u0 at *
  generalize (mText L 2 (adv s)).1 = tab at *
  refine CallQ.intro (pmustKey_d L hL hT u0 27 ⟨#[83, 69, 84]⟩ (by kernel_rfl) ha1) ?_ ?_ ?_
  ·decide
  ·simp only [tt, seval, PB]
  rintro r os ⟨rfl, rfl⟩ hos
  simp only [tt, seval, PB]
  have o1 : Ok L u0 (must (isKey L u0 27) u0) := Ok.must fun h => isKey_lt h
  have ha2 := o1.2.1 ha1
  generalize must (isKey L u0 27) u0 = u1 at *
  split at h
  ·cases h
  rename_i l s2 hl
  split at h
  ·cases h
  rename_i w s3 hwh
  injection h with h; injection h with h1 h2; subst h1 h2
  unfold setsM at hl
  split at hl
  ·cases hl
  rename_i x1 v1 hs1
  obtain ⟨xt, xe⟩ := x1
  have cs := pset_step L hL hT ok hf1 tab [] [] (by simp) (by simp) [] _ _ _ hs1 ha2
  simp only [List.flatMap_nil, List.length_nil, List.nil_append] at cs
  refine callT ([]) (cs) ?_ ?_ ?_ ?_
  ·decide
  ·simp only [tt, seval, PB]
   try decide
  ·exact fun x => by simp only [List.flatten_append, List.flatten_cons, List.flatten_nil, List.count_append, List.append_nil, List.nil_append, List.count_nil]; omega
  rintro r os ⟨rfl, F1, rfl⟩ hos
  simp only [tt, seval, PB]
  have hav1 := (OkM.set1 ok _ _ _ hs1).2.1 ha2
  refine dLoop.gh [.ren 20090049 20090053, .ren 20100049 20100053] ⟨by decide, by decide, ?_⟩
  try simp only [tt, seval]
  refine ⟨by decide, by decide, ?_⟩
  try simp only [tt, seval]
  refine dLoop0.intro (fun f' Lo p => ∃ (m : List (ByteArray × Expr)) (ccs : List ByteArray) (ces : List Expr) (v : PS) (n : Nat) (Fm : List (List Nat)), sepM L (setM L f) n m v = some (l, s2) ∧ ccs = m.map (·.1) ∧ ces = m.map (·.2) ∧ v.a ≤ L.length ∧ m.length ≤ v.a + 1 ∧ Lo = [(9000, .str (PB L v)), (3, .str [.v (.int .i64 3), .v (.bool false), .v (.slice none 0 0), .v (.slice none 0 0), .v (.slice none 0 0), .v (.slice none 0 0), .v (.int .i64 0), .v (.string tab), .v (.slice none 0 0), .s 20090053 (ccs).length, .s 20100053 (ces).length, .v (.slice none 0 0)]), (20090053, .arr 9 (ccs).length ((ccs).flatMap srow) (some [])), (20100053, .arr 29 (ces).length ((ces).flatMap Expr.row) (some (Fm))), (2, .str [.v (.int .i64 0), .v (.bool false), .v (.slice none 0 0), .v (.slice none 0 0), .v (.slice none 0 0), .v (.slice none 0 0), .v (.int .i64 0), .v (.string ByteArray.empty), .v (.slice none 0 0), .v (.slice none 0 0), .v (.slice none 0 0), .v (.slice none 0 0)])] ∧ p = some Fm) (fun _ Lo _ => L.length - atS Lo) [(9000, .str (PB L v1)), (3, .str [.v (.int .i64 3), .v (.bool false), .v (.slice none 0 0), .v (.slice none 0 0), .v (.slice none 0 0), .v (.slice none 0 0), .v (.int .i64 0), .v (.string tab), .v (.slice none 0 0), .s 20090053 ([xt]).length, .s 20100053 ([xe]).length, .v (.slice none 0 0)]), (20090053, .arr 9 ([xt]).length (([xt]).flatMap srow) (some [])), (20100053, .arr 29 ([xe]).length (([xe]).flatMap Expr.row) (some (F1))), (2, .str [.v (.int .i64 0), .v (.bool false), .v (.slice none 0 0), .v (.slice none 0 0), .v (.slice none 0 0), .v (.slice none 0 0), .v (.int .i64 0), .v (.string ByteArray.empty), .v (.slice none 0 0), .v (.slice none 0 0), .v (.slice none 0 0), .v (.slice none 0 0)])] (some F1) ⟨by simp only [Stmt.row_mk, Query.row_mk, zStmt, zQuery, ERow.row_mk, srow, bae, PB, mLit, mCol, mKids, mUn, mBin, zExpr, zVal, z0, Expr.row_mk, Query.row_mk, List.flatMap_nil, List.flatMap_cons, List.append_nil, List.length_nil, List.length_cons, Val.row, List.cons_append, List.nil_append, List.flatMap_append, List.length_append]; exact SubO.cons rfl (SubO.cons rfl (SubO.cons rfl (SubO.cons rfl (SubO.cons rfl (SubO.nil _))))), PoSub.refl _, ?_⟩ ?_
  ·simp only [tt, seval]
   exact ⟨[(xt, xe)], [xt], [xe], v1, L.length + 1, F1, hl, rfl, rfl, hav1, by simp, by simp, rfl⟩
  ·rintro g' Lo p ⟨m, ccs, ces, v, n, Fm, hm, hcc, hce, hv, hml, rfl, rfl⟩
   have lcc : ccs.length = m.length := by rw [hcc, List.length_map]
   have lce : ces.length = m.length := by rw [hce, List.length_map]
   try simp only [tt, seval]
   refine CallQ.intro (ptakeSign_d L hL hT v 44 hv) ?_ ?_ ?_
   ·decide
   ·simp only [tt, seval, PB]
   rintro r os ⟨rfl, rfl⟩ hos
   simp only [tt, seval, PB]
   cases n with
   | zero => cases hm
   | succ n =>
   rw [sepM] at hm
   cases c44 : isSg L v 44 with
   | true =>
    rw [if_pos c44] at hm
    split at hm
    ·cases hm
    rename_i z w' hz
    have hlt := (isSg_lt c44).2
    have hav := adv_le (L := L) (isSg_lt c44)
    have o3 := OkM.set1 ok _ _ _ hz
    have o3a : v.a + 1 ≤ w'.a := o3.1
    have hw := o3.2.1 hav
    obtain ⟨yt, ye⟩ := z
    have c2 := pset_step L hL hT ok hf1 tab ccs ces (by omega) (by omega) Fm _ _ _ hz hav
    simp only [tt, seval, tkT, tkF, muT, muF]
    refine callT ([]) (c2) ?_ ?_ ?_ ?_
    ·decide
    ·simp only [tt, seval, PB]
     try decide
    ·exact fun x => by simp only [List.flatten_append, List.flatten_cons, List.flatten_nil, List.count_append, List.append_nil, List.nil_append, List.count_nil]; omega
    rintro r os ⟨rfl, F2, rfl⟩ hos
    simp only [tt, seval, PB]
    refine ⟨[(9000, .str (PB L w')), (3, .str [.v (.int .i64 3), .v (.bool false), .v (.slice none 0 0), .v (.slice none 0 0), .v (.slice none 0 0), .v (.slice none 0 0), .v (.int .i64 0), .v (.string tab), .v (.slice none 0 0), .s 20090053 ((ccs ++ [yt])).length, .s 20100053 ((ces ++ [ye])).length, .v (.slice none 0 0)]), (20090053, .arr 9 ((ccs ++ [yt])).length (((ccs ++ [yt])).flatMap srow) (some [])), (20100053, .arr 29 ((ces ++ [ye])).length (((ces ++ [ye])).flatMap Expr.row) (some (F2))), (2, .str [.v (.int .i64 0), .v (.bool false), .v (.slice none 0 0), .v (.slice none 0 0), .v (.slice none 0 0), .v (.slice none 0 0), .v (.int .i64 0), .v (.string ByteArray.empty), .v (.slice none 0 0), .v (.slice none 0 0), .v (.slice none 0 0), .v (.slice none 0 0)])], some F2, by simp only [Stmt.row_mk, Query.row_mk, zStmt, zQuery, ERow.row_mk, srow, bae, PB, mLit, mCol, mKids, mUn, mBin, zExpr, zVal, z0, Expr.row_mk, Query.row_mk, List.flatMap_nil, List.flatMap_cons, List.append_nil, List.length_nil, List.length_cons, Val.row, List.cons_append, List.nil_append, List.flatMap_append, List.length_append]; exact SubO.cons rfl (SubO.cons rfl (SubO.cons rfl (SubO.cons rfl (SubO.cons rfl (SubO.nil _))))), PoSub.refl _, ⟨m ++ [(yt, ye)], ccs ++ [yt], ces ++ [ye], w', n, F2, hm, by rw [hcc]; simp, by rw [hce]; simp, hw, by simp; omega, rfl, rfl⟩, ?_⟩
    show L.length - ((w'.a : Int)).toNat < L.length - ((v.a : Int)).toNat
    omega
   | false =>
    rw [if_neg (by rw [c44]; simp)] at hm
    injection hm with hm; injection hm with e1 e2; subst e1 e2
    simp only [tt, seval, tkT, tkF, muT, muF, Bool.false_eq_true]
    have cw := pwhere_step L hL hT hf1 _ _ _ hwh hv
    rw [← hcc, ← hce]
    refine CallQ.intro (cw) ?_ ?_ ?_
    ·decide
    ·simp only [tt, seval, PB]
    rintro r os ⟨⟨Fw, rfl⟩, rfl⟩ hos
    simp only [tt, seval, PB]
    refine fun G0 G1 G2 => ?_
    refine ⟨.ag (told (Stmt.mk 3 zQuery tab [] ccs ces w).row [[], [], [], [], [], G0 :: [], G1 :: Fm, G2 :: Fw]), [PB L (s3)], ⟨⟨[], [], [], [], [], G0 :: [], G1 :: Fm, G2 :: Fw, by first | rfl | simp only [Stmt.row_mk, Query.row_mk, zStmt, zQuery, ERow.row_mk, srow, bae, PB, mLit, mCol, mKids, mUn, mBin, zExpr, zVal, z0, Expr.row_mk, Query.row_mk, List.flatMap_nil, List.flatMap_cons, List.append_nil, List.length_nil, List.length_cons, told, Val.row, List.cons_append, List.nil_append]⟩, rfl⟩, endOk ?_⟩
    simp only [tt, seval, Stmt.row_mk, Query.row_mk, zStmt, zQuery, ERow.row_mk, srow, bae, PB, mLit, mCol, mKids, mUn, mBin, zExpr, zVal, z0, Expr.row_mk, Query.row_mk, List.flatMap_nil, List.flatMap_cons, List.append_nil, List.length_nil, List.length_cons, told, Val.row, List.cons_append, List.nil_append, List.length_map, z0]
    first | done | exact pool_ok fun x => by simp only [List.flatten_append, List.flatten_cons, List.flatten_nil, List.count_append, List.append_nil, List.nil_append, List.count_nil]; omega | exact ⟨by omega, Sb.refl _⟩ | exact ⟨by omega, pool_ok fun x => by simp only [List.flatten_append, List.flatten_cons, List.flatten_nil, List.count_append, List.append_nil, List.nil_append, List.count_nil]; omega⟩
 | false =>
 rw [if_neg (by rw [c26]; simp)] at h
 simp only [tt, seval, tkT, tkF, muT, muF, Bool.false_eq_true]
 refine CallQ.intro (ptakeKey_d L hL hT s 28 ⟨#[68, 69, 76, 69, 84, 69]⟩ (by kernel_rfl) ha) ?_ ?_ ?_
 ·decide
 ·simp only [tt, seval, PB]
 rintro r os ⟨rfl, rfl⟩ hos
 simp only [tt, seval, PB]
 cases c28 : isKey L s 28 with
 | true =>
  rw [if_pos c28] at h
  have hav := adv_le (L := L) (isKey_lt c28)
  unfold deleteM at h
  simp only at h
  simp only [tt, seval, tkT, tkF, muT, muF]
  refine CallQ.intro (pmustKey_d L hL hT (adv s) 3 ⟨#[70, 82, 79, 77]⟩ (by kernel_rfl) hav) ?_ ?_ ?_
  ·decide
  ·simp only [tt, seval, PB]
  rintro r os ⟨rfl, rfl⟩ hos
  simp only [tt, seval, PB]
  have o1 : Ok L (adv s) (must (isKey L (adv s) 3) (adv s)) := Ok.must fun h => isKey_lt h
  have ha1 := o1.2.1 hav
  generalize must (isKey L (adv s) 3) (adv s) = u1 at *
  refine CallQ.intro (pmustKind_d L hL hT u1 2 ha1) ?_ ?_ ?_
  ·decide
  ·simp only [tt, seval, PB]
  rintro r os ⟨rfl, rfl⟩ hos
  simp only [tt, seval, PB]
  have ha2 := (Ok.mText (L := L) 2 u1).2.1 ha1
  generalize (mText L 2 u1).2 = u2 at *
  generalize (mText L 2 u1).1 = tab at *
  split at h
  ·cases h
  rename_i w s2 hw
  injection h with h; injection h with h1 h2; subst h1 h2
  have cw := pwhere_step L hL hT hf1 _ _ _ hw ha2
  refine CallQ.intro (cw) ?_ ?_ ?_
  ·decide
  ·simp only [tt, seval, PB]
  rintro r os ⟨⟨F, rfl⟩, rfl⟩ hos
  simp only [tt, seval, PB]
  refine fun G => ?_
  refine ⟨.ag (told (Stmt.mk 4 zQuery tab [] [] [] w).row [[], [], [], [], [], [], [], G :: F]), [PB L (s2)], ⟨⟨[], [], [], [], [], [], [], G :: F, by first | rfl | simp only [Stmt.row_mk, Query.row_mk, zStmt, zQuery, ERow.row_mk, srow, bae, PB, mLit, mCol, mKids, mUn, mBin, zExpr, zVal, z0, Expr.row_mk, Query.row_mk, List.flatMap_nil, List.flatMap_cons, List.append_nil, List.length_nil, List.length_cons, told, Val.row, List.cons_append, List.nil_append]⟩, rfl⟩, endOk ?_⟩
  simp only [tt, seval, Stmt.row_mk, Query.row_mk, zStmt, zQuery, ERow.row_mk, srow, bae, PB, mLit, mCol, mKids, mUn, mBin, zExpr, zVal, z0, Expr.row_mk, Query.row_mk, List.flatMap_nil, List.flatMap_cons, List.append_nil, List.length_nil, List.length_cons, told, Val.row, List.cons_append, List.nil_append, List.length_map, z0]
  first | done | exact pool_ok fun x => by simp only [List.flatten_append, List.flatten_cons, List.flatten_nil, List.count_append, List.append_nil, List.nil_append, List.count_nil]; omega | exact ⟨by omega, Sb.refl _⟩ | exact ⟨by omega, pool_ok fun x => by simp only [List.flatten_append, List.flatten_cons, List.flatten_nil, List.count_append, List.append_nil, List.nil_append, List.count_nil]; omega⟩
 | false =>
  rw [if_neg (by rw [c28]; simp)] at h
  injection h with h; injection h with h1 h2; subst h1 h2
  simp only [tt, seval, tkT, tkF, muT, muF, Bool.false_eq_true]
  refine ⟨.ag (told (zStmt).row [[], [], [], [], [], [], [], []]), [PB L (fl s)], ⟨⟨[], [], [], [], [], [], [], [], by first | rfl | simp only [Stmt.row_mk, Query.row_mk, zStmt, zQuery, ERow.row_mk, srow, bae, PB, mLit, mCol, mKids, mUn, mBin, zExpr, zVal, z0, Expr.row_mk, Query.row_mk, List.flatMap_nil, List.flatMap_cons, List.append_nil, List.length_nil, List.length_cons, told, Val.row, List.cons_append, List.nil_append]⟩, rfl⟩, endOk ?_⟩
  simp only [tt, seval, Stmt.row_mk, Query.row_mk, zStmt, zQuery, ERow.row_mk, srow, bae, PB, mLit, mCol, mKids, mUn, mBin, zExpr, zVal, z0, Expr.row_mk, Query.row_mk, List.flatMap_nil, List.flatMap_cons, List.append_nil, List.length_nil, List.length_cons, told, Val.row, List.cons_append, List.nil_append, List.length_map, z0, fl]
  first | done | exact pool_ok fun x => by simp only [List.flatten_append, List.flatten_cons, List.flatten_nil, List.count_append, List.append_nil, List.nil_append, List.count_nil]; omega | exact ⟨by omega, Sb.refl _⟩ | exact ⟨by omega, pool_ok fun x => by simp only [List.flatten_append, List.flatten_cons, List.flatten_nil, List.count_append, List.append_nil, List.nil_append, List.count_nil]; omega⟩
end Go.Proofs.YteffjmaadkkmeaaGreatDoor
set_option maxRecDepth 8000
namespace Go.Proofs.YteffjmaadkkmeaaGreatDoor
open Go Go.Dv
open Go.Vc (D shrI xorI andI and255)
def SpR (L : List Tok) (m : PM ERow) : Prop := ∀ s x s', m s = some (ERow.mk x, s') → s.a ≤ L.length → Cl Tryz.prog 170 [.c (.p 9000 0)] [PB L s] fun r os => r = .c (.sl x.length (x.flatMap Expr.row) none) ∧ os = [PB L s']
set_option maxHeartbeats 2000000 in
theorem l13Row_step (L : List Tok) (hL : L.length ≤ 1048576) (hT : ∀ t ∈ L, t.text.size ≤ 1048576) {f : Nat → PM Expr} (ok : ∀ lv, OkM (L := L) (f lv)) (hf1 : SpE L 39 [vi 1] (f 1)) : SpR L (rowM L f) := by
 intro s x s' h ha
 unfold rowM at h
 split at h
 ·cases h
 rename_i l t hl
 obtain ⟨rfl, rfl⟩ : l = x ∧ must (isSg L t 41) t = s' := by
  injection h with h; injection h with h1 h2; injection h1 with h1; exact ⟨h1, h2⟩
 clear h
 refine cl_of_d follows_mixed false Tryz.func170 rfl (by kernel_rfl) ?_
 simp only [Tryz.f170, tt, seval]
 refine CallQ.intro (l12SignC_d L hL hT s 40 ha) ?_ ?_ ?_
 ·decide
 ·simp only [tt, seval, PB]
 rintro r os ⟨rfl, rfl⟩ hos
 simp only [tt, seval, PB]
 refine CallQ.intro (l12Step_d L hL hT s (isSg L s 40) (fun h => isSg_lt h)) ?_ ?_ ?_
 ·decide
 ·simp only [tt, seval, PB]
 rintro r os ⟨rfl, rfl⟩ hos
 simp only [tt, seval, PB]
 have o1 : Ok L s (must (isSg L s 40) s) := Ok.must fun h => isSg_lt h
 have ha1 := o1.2.1 ha
 generalize must (isSg L s 40) s = u at *
 unfold orsM at hl
 split at hl
 ·cases hl
 rename_i y u1 hy
 have ha2 := (ok 1 _ _ _ hy).2.1 ha1
 obtain ⟨k1, p1, n1, v1, q1, m1, ks1, ss1⟩ := y
 have c1 := hf1 _ _ _ hy ha1
 rw [Expr.row_mk] at c1
 refine CallQ.intro (c1) ?_ ?_ ?_
 ·decide
 ·simp only [tt, seval, PB, Val.row]
 rintro r os ⟨rfl, rfl⟩ hos
 simp only [tt, seval, PB, Val.row]
 refine dLoop.gh [.ren 10 19] ⟨by decide, by decide, ?_⟩
 refine dLoop0.intro (fun f' Lo p => ∃ (m : List Expr) (v : PS) (n : Nat), f' 3 = .c (.s 19 m.length) ∧ sepM L (f 1) n m v = some (l, t) ∧ v.a ≤ L.length ∧ m.length ≤ v.a + 1 ∧ Lo = [(9000, .str (PB L v)), (19, .arr 29 (m).length ((m).flatMap Expr.row) none)] ∧ p = none) (fun _ Lo _ => L.length - atS Lo) [(9000, .str (PB L u1)), (19, .arr 29 ([(Expr.mk k1 p1 n1 v1 q1 m1 ks1 ss1)]).length (([(Expr.mk k1 p1 n1 v1 q1 m1 ks1 ss1)]).flatMap Expr.row) none)] none ⟨by simp only [bae, PB, mLit, mCol, mKids, mUn, mBin, zExpr, zVal, z0, Expr.row_mk, Query.row_mk, List.flatMap_nil, List.flatMap_cons, List.append_nil, List.length_nil, List.length_cons, Val.row, List.cons_append, List.nil_append, List.flatMap_append, List.length_append]; exact SubO.cons rfl (SubO.cons rfl (SubO.nil _)), PoSub.none _, ?_⟩ ?_
 ·simp only [tt, seval]
  exact ⟨[(Expr.mk k1 p1 n1 v1 q1 m1 ks1 ss1)], u1, L.length + 1, rfl, hl, ha2, by simp, rfl⟩
 ·rintro g' Lo p ⟨m, v, n, h3, hm, hv, hml, rfl, rfl⟩
  simp only [tt, seval] at h3
  simp only [tt, seval, h3]
  refine CallQ.intro (l12SignC_d L hL hT v 44 hv) ?_ ?_ ?_
  ·decide
  ·simp only [tt, seval, PB, h3]
  rintro r os ⟨rfl, rfl⟩ hos
  simp only [tt, seval, PB, h3]
  cases n with
  | zero => cases hm
  | succ n =>
  rw [sepM] at hm
  cases c44 : isSg L v 44 with
  | true =>
   rw [if_pos c44] at hm
   split at hm
   ·cases hm
   rename_i z w hz
   have hlt := (isSg_lt c44).2
   have hav := adv_le (L := L) (isSg_lt c44)
   have o3 := ok 1 _ _ _ hz
   have o3a : v.a + 1 ≤ w.a := o3.1
   have hw := o3.2.1 hav
   obtain ⟨k2, p2, n2, v2, q2, m2, ks2, ss2⟩ := z
   have c2 := hf1 _ _ _ hz hav
   rw [Expr.row_mk] at c2
   simp only [tt, seval, h3]
   refine CallQ.intro (l12Step_d L hL hT v true (fun _ => isSg_lt c44)) ?_ ?_ ?_
   ·decide
   ·simp only [tt, seval, PB, muT, h3]
   rintro r os ⟨rfl, rfl⟩ hos
   simp only [tt, seval, PB, muT, h3]
   refine CallQ.intro (c2) ?_ ?_ ?_
   ·decide
   ·simp only [tt, seval, PB, h3, Val.row]
   rintro r os ⟨rfl, rfl⟩ hos
   simp only [tt, seval, PB, h3, Val.row]
   refine ⟨by kernel_rfl, ⟨by simp only [maxLen]; omega, by omega⟩, ?_⟩
   refine ⟨[(9000, .str (PB L w)), (19, .arr 29 ((m ++ [(Expr.mk k2 p2 n2 v2 q2 m2 ks2 ss2)])).length (((m ++ [(Expr.mk k2 p2 n2 v2 q2 m2 ks2 ss2)])).flatMap Expr.row) none)], none, by simp only [bae, PB, mLit, mCol, mKids, mUn, mBin, zExpr, zVal, z0, Expr.row_mk, Query.row_mk, List.flatMap_nil, List.flatMap_cons, List.append_nil, List.length_nil, List.length_cons, Val.row, List.cons_append, List.nil_append, List.flatMap_append, List.length_append]; exact SubO.cons rfl (SubO.cons rfl (SubO.nil _)), PoSub.none _, ⟨m ++ [(Expr.mk k2 p2 n2 v2 q2 m2 ks2 ss2)], w, n, by simp, hm, hw, by simp; omega, rfl, rfl⟩, ?_⟩
   show L.length - ((w.a : Int)).toNat < L.length - ((v.a : Int)).toNat
   omega
  | false =>
   rw [if_neg (by rw [c44]; simp)] at hm
   injection hm with hm; injection hm with e1 e2; subst e1 e2
   simp only [tt, seval, Bool.false_eq_true, h3]
   refine CallQ.intro (l12SignC_d L hL hT v 41 hv) ?_ ?_ ?_
   ·decide
   ·simp only [tt, seval, PB, h3]
   rintro r os ⟨rfl, rfl⟩ hos
   simp only [tt, seval, PB, h3]
   refine CallQ.intro (l12Step_d L hL hT v (isSg L v 41) (fun h => isSg_lt h)) ?_ ?_ ?_
   ·decide
   ·simp only [tt, seval, PB, h3]
   rintro r os ⟨rfl, rfl⟩ hos
   simp only [tt, seval, PB, h3]
   refine ⟨.c (.sl m.length (m.flatMap Expr.row) none), [PB L (must (isSg L v 41) v)], ⟨rfl, rfl⟩, endOk ?_⟩
   simp only [tt, seval, PB]
set_option maxHeartbeats 4000000 in
theorem l13Insert_step (L : List Tok) (hL : L.length ≤ 1048576) (hT : ∀ t ∈ L, t.text.size ≤ 1048576) {f : Nat → PM Expr} (ok : ∀ lv, OkM (L := L) (f lv)) (hf1 : SpE L 39 [vi 1] (f 1)) (s : PS) (x : Stmt) (s' : PS) (h : insertM L f s = some (x, s')) (ha : s.a ≤ L.length) : Cl Tryz.prog 112 [.c (.p 9000 0)] [PB L s] fun r os => r = .ag (csOf x.row) ∧ os = [PB L s'] := by
 unfold insertM at h
 simp only at h
 refine cl_of_d follows_mixed false Tryz.func112 rfl (by kernel_rfl) ?_
 simp only [Tryz.f112, tt, seval]
 refine CallQ.intro (l12Key_d L hL hT s 24 (by omega) (by omega) ha) ?_ ?_ ?_
 ·decide
 ·simp only [tt, seval, PB]
 rintro r os ⟨rfl, rfl⟩ hos
 simp only [tt, seval, PB]
 refine CallQ.intro (l12Step_d L hL hT s (isKey L s 24) (fun h => isKey_lt h)) ?_ ?_ ?_
 ·decide
 ·simp only [tt, seval, PB]
 rintro r os ⟨rfl, rfl⟩ hos
 simp only [tt, seval, PB]
 have o1 : Ok L s (must (isKey L s 24) s) := Ok.must fun h => isKey_lt h
 have ha1 := o1.2.1 ha
 generalize must (isKey L s 24) s = u1 at *
 refine CallQ.intro (l12Text_d L hL hT u1 2 (by omega) ha1) ?_ ?_ ?_
 ·decide
 ·simp only [tt, seval, PB]
 rintro r os ⟨rfl, rfl⟩ hos
 simp only [tt, seval, PB]
 have ha2 := (Ok.mText (L := L) 2 u1).2.1 ha1
 generalize (mText L 2 u1).2 = u2 at *
 generalize (mText L 2 u1).1 = tab at *
 refine CallQ.intro (l12Key_d L hL hT u2 25 (by omega) (by omega) ha2) ?_ ?_ ?_
 ·decide
 ·simp only [tt, seval, PB]
 rintro r os ⟨rfl, rfl⟩ hos
 simp only [tt, seval, PB]
 refine CallQ.intro (l12Step_d L hL hT u2 (isKey L u2 25) (fun h => isKey_lt h)) ?_ ?_ ?_
 ·decide
 ·simp only [tt, seval, PB]
 rintro r os ⟨rfl, rfl⟩ hos
 simp only [tt, seval, PB]
 have o3 : Ok L u2 (must (isKey L u2 25) u2) := Ok.must fun h => isKey_lt h
 have ha3 := o3.2.1 ha2
 generalize must (isKey L u2 25) u2 = u3 at *
 split at h
 ·cases h
 rename_i rs s3 hrs
 injection h with h; injection h with h1 h2; subst h1 h2
 unfold rowsM at hrs
 split at hrs
 ·cases hrs
 rename_i r1 v1 hr1
 obtain ⟨l1⟩ := r1
 have c1 := l13Row_step L hL hT ok hf1 _ _ _ hr1 ha3
 have hav1 := (OkM.row ok _ _ _ hr1).2.1 ha3
 apply dDrawn_j3 0 2 3
 case h1 =>
  refine dDrawn.intro [18] (.take 0 (.take 2 (.br 1 (.br 3 (.br 4 (.br 5 (.take 6 (.br 7 .done .nobr)) .nobr) .nobr) .nobr) (.br 3 (.take 1 (.br 4 (.br 5 (.take 6 (.br 7 .done .nobr)) .nobr) .nobr)) .nobr)))) (by kernel_rfl) ?_
  simp only [tt, seval]
  all_goals repeat' first | refine brC ?_ ?_ | refine brC2 ?_ ?_
  all_goals
   refine CallQ.intro (c1) ?_ ?_ ?_
   ·decide
   ·simp only [tt, seval, PB]
    try decide
   rintro r os ⟨rfl, rfl⟩ hos
   simp only [tt, seval, PB]
  all_goals repeat' first | refine brA ?_ ?_ | refine brA2 ?_ ?_ | refine brA3 ?_ ?_
  all_goals
   refine ⟨by kernel_rfl, ⟨by simp only [maxLen]; omega, by omega⟩, ?_⟩
   try simp only [tt, seval]
  all_goals exact ⟨rfl, rfl, rfl, rfl, rfl⟩
 case h2 =>
  intro f' hj0 hj1 hj2
  try simp only [tt, seval, hj0, hj1, hj2]
  refine dLoop.gh [.ren 20 31] ⟨by decide, by decide, ?_⟩
  refine dLoop0.intro (fun f' Lo p => ∃ (m : List ERow) (v : PS) (n : Nat), sepM L (rowM L f) n m v = some (rs, s3) ∧ v.a ≤ L.length ∧ m.length ≤ v.a + 1 ∧ Lo = [(9000, .str (PB L v)), (3, .str [.v (.int .i64 2), .v (.bool false), .v (.slice none 0 0), .v (.slice none 0 0), .v (.slice none 0 0), .v (.slice none 0 0), .v (.int .i64 0), .v (.string tab), .s 31 (m).length, .v (.slice none 0 0), .v (.slice none 0 0), .v (.slice none 0 0)]), (31, .arr 26 (m).length ((m).flatMap ERow.row) none), (2, .str [.v (.int .i64 0), .v (.bool false), .v (.slice none 0 0), .v (.slice none 0 0), .v (.slice none 0 0), .v (.slice none 0 0), .v (.int .i64 0), .v (.string ByteArray.empty), .v (.slice none 0 0), .v (.slice none 0 0), .v (.slice none 0 0), .v (.slice none 0 0)])] ∧ p = none) (fun _ Lo _ => L.length - atS Lo) [(9000, .str (PB L v1)), (3, .str [.v (.int .i64 2), .v (.bool false), .v (.slice none 0 0), .v (.slice none 0 0), .v (.slice none 0 0), .v (.slice none 0 0), .v (.int .i64 0), .v (.string tab), .s 31 ([ERow.mk l1]).length, .v (.slice none 0 0), .v (.slice none 0 0), .v (.slice none 0 0)]), (31, .arr 26 ([ERow.mk l1]).length (([ERow.mk l1]).flatMap ERow.row) none), (2, .str [.v (.int .i64 0), .v (.bool false), .v (.slice none 0 0), .v (.slice none 0 0), .v (.slice none 0 0), .v (.slice none 0 0), .v (.int .i64 0), .v (.string ByteArray.empty), .v (.slice none 0 0), .v (.slice none 0 0), .v (.slice none 0 0), .v (.slice none 0 0)])] none ⟨by simp only [bae, PB, mLit, mCol, mKids, mUn, mBin, zExpr, zVal, z0, Expr.row_mk, Query.row_mk, List.flatMap_nil, List.flatMap_cons, List.append_nil, List.length_nil, List.length_cons, Val.row, List.cons_append, List.nil_append, List.flatMap_append, List.length_append, ERow.row_mk]; exact SubO.cons rfl (SubO.cons rfl (SubO.cons rfl (SubO.cons rfl (SubO.nil _)))), PoSub.none _, ?_⟩ ?_
  ·simp only [tt, seval, hj0, hj1, hj2]
   exact ⟨[ERow.mk l1], v1, L.length + 1, hrs, hav1, by simp, rfl⟩
  ·rintro g' Lo p ⟨m, v, n, hm, hv, hml, rfl, rfl⟩
   try simp only [tt, seval, hj0, hj1, hj2]
   refine CallQ.intro (l12SignC_d L hL hT v 44 hv) ?_ ?_ ?_
   ·decide
   ·simp only [tt, seval, PB, hj0, hj1, hj2]
   rintro r os ⟨rfl, rfl⟩ hos
   simp only [tt, seval, PB, hj0, hj1, hj2]
   cases n with
   | zero => cases hm
   | succ n =>
   rw [sepM] at hm
   cases c44 : isSg L v 44 with
   | true =>
    rw [if_pos c44] at hm
    split at hm
    ·cases hm
    rename_i z w hz
    have hlt := (isSg_lt c44).2
    have hav := adv_le (L := L) (isSg_lt c44)
    have o3 := OkM.row ok _ _ _ hz
    have o3a : v.a + 1 ≤ w.a := o3.1
    have hw := o3.2.1 hav
    obtain ⟨l2⟩ := z
    have c2 := l13Row_step L hL hT ok hf1 _ _ _ hz hav
    simp only [tt, seval, hj0, hj1, hj2]
    refine CallQ.intro (l12Step_d L hL hT v true (fun _ => isSg_lt c44)) ?_ ?_ ?_
    ·decide
    ·simp only [tt, seval, PB, muT, hj0, hj1, hj2]
    rintro r os ⟨rfl, rfl⟩ hos
    simp only [tt, seval, PB, muT, hj0, hj1, hj2]
    apply dDrawn_j1 3
    case h1 =>
     refine dDrawn.intro [29] (.take 0 (.take 2 (.br 1 (.br 3 (.br 4 (.br 5 (.take 6 (.br 7 .done .nobr)) .nobr) .nobr) .nobr) (.br 3 (.take 1 (.br 4 (.br 5 (.take 6 (.br 7 .done .nobr)) .nobr) .nobr)) .nobr)))) (by kernel_rfl) ?_
     simp only [tt, seval]
     all_goals try simp only [tt, seval, hj0, hj1, hj2]
     all_goals repeat' first | refine brC ?_ ?_ | refine brC2 ?_ ?_
     all_goals
      refine CallQ.intro (c2) ?_ ?_ ?_
      ·decide
      ·simp only [tt, seval, PB, hj0, hj1, hj2]
       try decide
      rintro r os ⟨rfl, rfl⟩ hos
      simp only [tt, seval, PB, hj0, hj1, hj2]
     all_goals repeat' first | refine brA ?_ ?_ | refine brA2 ?_ ?_ | refine brA3 ?_ ?_
     all_goals
      refine ⟨by kernel_rfl, ⟨by simp only [maxLen]; omega, by omega⟩, ?_⟩
      try simp only [tt, seval]
     all_goals exact ⟨rfl, rfl, rfl⟩
    case h2 =>
     intro f' hk0
     try simp only [tt, seval, hk0]
     refine ⟨[(9000, .str (PB L w)), (3, .str [.v (.int .i64 2), .v (.bool false), .v (.slice none 0 0), .v (.slice none 0 0), .v (.slice none 0 0), .v (.slice none 0 0), .v (.int .i64 0), .v (.string tab), .s 31 ((m ++ [ERow.mk l2])).length, .v (.slice none 0 0), .v (.slice none 0 0), .v (.slice none 0 0)]), (31, .arr 26 ((m ++ [ERow.mk l2])).length (((m ++ [ERow.mk l2])).flatMap ERow.row) none), (2, .str [.v (.int .i64 0), .v (.bool false), .v (.slice none 0 0), .v (.slice none 0 0), .v (.slice none 0 0), .v (.slice none 0 0), .v (.int .i64 0), .v (.string ByteArray.empty), .v (.slice none 0 0), .v (.slice none 0 0), .v (.slice none 0 0), .v (.slice none 0 0)])], none, by simp only [bae, PB, mLit, mCol, mKids, mUn, mBin, zExpr, zVal, z0, Expr.row_mk, Query.row_mk, List.flatMap_nil, List.flatMap_cons, List.append_nil, List.length_nil, List.length_cons, Val.row, List.cons_append, List.nil_append, List.flatMap_append, List.length_append, ERow.row_mk]; exact SubO.cons rfl (SubO.cons rfl (SubO.cons rfl (SubO.cons rfl (SubO.nil _)))), PoSub.none _, ⟨m ++ [ERow.mk l2], w, n, hm, hw, by simp; omega, rfl, rfl⟩, ?_⟩
     show L.length - ((w.a : Int)).toNat < L.length - ((v.a : Int)).toNat
     omega
   | false =>
    rw [if_neg (by rw [c44]; simp)] at hm
    injection hm with hm; injection hm with e1 e2; subst e1 e2
    simp only [tt, seval, Bool.false_eq_true, hj0, hj1, hj2]
    refine ⟨.ag (csOf (Stmt.mk 2 zQuery tab m [] [] []).row), [PB L v], ⟨rfl, rfl⟩, endOk ?_⟩
    simp only [tt, seval, Stmt.row_mk, Query.row_mk, zQuery, ERow.row_mk, bae, PB, mLit, mCol, mKids, mUn, mBin, zExpr, zVal, z0, Expr.row_mk, Query.row_mk, List.flatMap_nil, List.flatMap_cons, List.append_nil, List.length_nil, List.length_cons, Val.row, List.cons_append, List.nil_append, PB]
set_option maxHeartbeats 8000000 in
theorem l13Update_step (L : List Tok) (hL : L.length ≤ 1048576) (hT : ∀ t ∈ L, t.text.size ≤ 1048576) {f : Nat → PM Expr} (ok : ∀ lv, OkM (L := L) (f lv)) (hf1 : SpE L 39 [vi 1] (f 1)) (s : PS) (x : Stmt) (s' : PS) (h : updateM L f s = some (x, s')) (ha : s.a ≤ L.length) : Cl Tryz.prog 113 [.c (.p 9000 0)] [PB L s] fun r os => r = .ag (csOf x.row) ∧ os = [PB L s'] := by
 unfold updateM at h
 simp only at h
 refine cl_of_d follows_mixed false Tryz.func113 rfl (by kernel_rfl) ?_
 simp only [Tryz.f113, tt, seval]
 refine CallQ.intro (l12Text_d L hL hT s 2 (by omega) ha) ?_ ?_ ?_
 ·decide
 ·simp only [tt, seval, PB]
 rintro r os ⟨rfl, rfl⟩ hos
 simp only [tt, seval, PB]
 have ha1 := (Ok.mText (L := L) 2 s).2.1 ha
 generalize (mText L 2 s).2 = u0 at *
 generalize (mText L 2 s).1 = tab at *
 refine CallQ.intro (l12Key_d L hL hT u0 27 (by omega) (by omega) ha1) ?_ ?_ ?_
 ·decide
 ·simp only [tt, seval, PB]
 rintro r os ⟨rfl, rfl⟩ hos
 simp only [tt, seval, PB]
 refine CallQ.intro (l12Step_d L hL hT u0 (isKey L u0 27) (fun h => isKey_lt h)) ?_ ?_ ?_
 ·decide
 ·simp only [tt, seval, PB]
 rintro r os ⟨rfl, rfl⟩ hos
 simp only [tt, seval, PB]
 have o1 : Ok L u0 (must (isKey L u0 27) u0) := Ok.must fun h => isKey_lt h
 have ha2 := o1.2.1 ha1
 generalize must (isKey L u0 27) u0 = u1 at *
 split at h
 ·cases h
 rename_i l s2 hl
 split at h
 ·cases h
 rename_i w s3 hwh
 injection h with h; injection h with h1 h2; subst h1 h2
 refine dLoop.gh [.virtC 3 9 16 9, .virtC 3 10 27 29] ⟨by decide, ?_⟩
 simp only [tt, seval]
 refine ⟨by decide, ?_⟩
 simp only [tt, seval]
 refine dLoop0.intro (fun f' Lo p => ∃ (m : List (ByteArray × Expr)) (v : PS) (n : Nat) (F1 F2 : Fp), (match setM L f v with | none => none | some (x, s1) => sepM L (setM L f) n (m ++ [x]) s1) = some (l, s2) ∧ v.a ≤ L.length ∧ m.length ≤ v.a ∧ Lo = [(9000, .str (PB L v)), (3, .str [.v (.int .i64 3), .v (.bool false), .v (.slice none 0 0), .v (.slice none 0 0), .v (.slice none 0 0), .v (.slice none 0 0), .v (.int .i64 0), .v (.string tab), .v (.slice none 0 0), .s 16 (m).length, .s 27 (m).length, .v (.slice none 0 0)]), (16, .arr 9 (m).length (((m).map (·.1)).flatMap srow) F1), (27, .arr 29 (m).length (((m).map (·.2)).flatMap Expr.row) F2), (2, .str [.v (.int .i64 0), .v (.bool false), .v (.slice none 0 0), .v (.slice none 0 0), .v (.slice none 0 0), .v (.slice none 0 0), .v (.int .i64 0), .v (.string ByteArray.empty), .v (.slice none 0 0), .v (.slice none 0 0), .v (.slice none 0 0), .v (.slice none 0 0)])] ∧ p = none) (fun _ Lo _ => L.length - atS Lo) [(9000, .str (PB L u1)), (3, .str [.v (.int .i64 3), .v (.bool false), .v (.slice none 0 0), .v (.slice none 0 0), .v (.slice none 0 0), .v (.slice none 0 0), .v (.int .i64 0), .v (.string tab), .v (.slice none 0 0), .s 16 (([] : List (ByteArray × Expr))).length, .s 27 (([] : List (ByteArray × Expr))).length, .v (.slice none 0 0)]), (16, .arr 9 (([] : List (ByteArray × Expr))).length (((([] : List (ByteArray × Expr))).map (·.1)).flatMap srow) (some [])), (27, .arr 29 (([] : List (ByteArray × Expr))).length (((([] : List (ByteArray × Expr))).map (·.2)).flatMap Expr.row) (some [])), (2, .str [.v (.int .i64 0), .v (.bool false), .v (.slice none 0 0), .v (.slice none 0 0), .v (.slice none 0 0), .v (.slice none 0 0), .v (.int .i64 0), .v (.string ByteArray.empty), .v (.slice none 0 0), .v (.slice none 0 0), .v (.slice none 0 0), .v (.slice none 0 0)])] none ⟨SubO.cons rfl (SubO.cons rfl (SubO.cons rfl (SubO.cons rfl (SubO.cons rfl (SubO.nil _))))), PoSub.none _, ?_⟩ ?_
 ·simp only [tt, seval]
  exact ⟨[], u1, L.length + 1, some [], some [], hl, ha2, by simp, rfl⟩
 ·rintro g' Lo p ⟨m, v, n, F1, F2, hm, hv, hml, rfl, rfl⟩
  try simp only [tt, seval]
  split at hm
  ·cases hm
  rename_i x y1 hset
  obtain ⟨xt, e⟩ := x
  unfold setM at hset
  simp only at hset
  have c1 := l12Text_d L hL hT v 2 (by omega) hv
  have o0 := Ok.mText (L := L) 2 v
  have o0a := o0.1
  have hu2 := o0.2.1 hv
  generalize (mText L 2 v).2 = u2 at *
  generalize (mText L 2 v).1 = tx at *
  apply dDrawn_j3 0 2 3
  case h1 =>
   refine dDrawn.intro [14] (.take 0 (.take 2 (.br 1 (.br 3 (.br 4 (.br 5 (.take 6 (.br 7 .done .nobr)) .nobr) .nobr) .nobr) (.br 3 (.take 1 (.br 4 (.br 5 (.take 6 (.br 7 .done .nobr)) .nobr) .nobr)) .nobr)))) (by kernel_rfl) ?_
   simp only [tt, seval]
   all_goals repeat' first | refine brC ?_ ?_ | refine brC2 ?_ ?_
   all_goals
    refine CallQ.intro (c1) ?_ ?_ ?_
    ·decide
    ·simp only [tt, seval, PB]
     try decide
    rintro r os ⟨rfl, rfl⟩ hos
    simp only [tt, seval, PB]
   all_goals repeat' first | refine brA ?_ ?_ | refine brA2 ?_ ?_ | refine brA3 ?_ ?_
   all_goals
    refine ⟨by kernel_rfl, ⟨by simp only [maxLen]; omega, by omega⟩, ?_⟩
    try simp only [tt, seval]
   all_goals exact ⟨rfl, rfl, rfl, rfl, rfl⟩
  case h2 =>
   intro f' hj0 hj1 hj2
   try simp only [tt, seval, hj0, hj1, hj2]
   have o2 : Ok L u2 (must (isSg L u2 61) u2) := Ok.must fun h => isSg_lt h
   refine CallQ.intro (l12SignC_d L hL hT u2 61 hu2) ?_ ?_ ?_
   ·decide
   ·simp only [tt, seval, PB, hj0, hj1, hj2]
   rintro r os ⟨rfl, rfl⟩ hos
   simp only [tt, seval, PB, hj0, hj1, hj2]
   refine CallQ.intro (l12Step_d L hL hT u2 (isSg L u2 61) (fun h => isSg_lt h)) ?_ ?_ ?_
   ·decide
   ·simp only [tt, seval, PB, hj0, hj1, hj2]
   rintro r os ⟨rfl, rfl⟩ hos
   simp only [tt, seval, PB, hj0, hj1, hj2]
   have hu3 := o2.2.1 hu2
   have o2a := o2.1
   generalize must (isSg L u2 61) u2 = u3 at *
   split at hset
   ·cases hset
   rename_i e5 y5 he
   obtain ⟨rfl, rfl, rfl⟩ : xt = tx ∧ e = e5 ∧ y1 = y5 := by cases hset; exact ⟨rfl, rfl, rfl⟩
   have o4 := ok 1 _ _ _ he
   have o4a := o4.1
   have hy1 := o4.2.1 hu3
   obtain ⟨k2, p2, n2, v2, q2, m2, ks2, ss2⟩ := e
   have c2 := hf1 _ _ _ he hu3
   rw [Expr.row_mk] at c2
   apply dDrawn_j3 0 2 3
   case h1 =>
    refine dDrawn.intro [25] (.take 0 (.take 2 (.br 1 (.br 3 (.br 4 (.br 5 (.take 6 (.br 7 .done .nobr)) .nobr) .nobr) .nobr) (.br 3 (.take 1 (.br 4 (.br 5 (.take 6 (.br 7 .done .nobr)) .nobr) .nobr)) .nobr)))) (by kernel_rfl) ?_
    simp only [tt, seval]
    all_goals try simp only [tt, seval, hj0, hj1, hj2]
    all_goals repeat' first | refine brC ?_ ?_ | refine brC2 ?_ ?_
    all_goals
     refine CallQ.intro (c2) ?_ ?_ ?_
     ·decide
     ·simp only [tt, seval, PB, Val.row, hj0, hj1, hj2]
      try decide
     rintro r os ⟨rfl, rfl⟩ hos
     simp only [tt, seval, PB, Val.row, hj0, hj1, hj2]
    all_goals repeat' first | refine brA ?_ ?_ | refine brA2 ?_ ?_ | refine brA3 ?_ ?_
    all_goals
     refine ⟨by kernel_rfl, ⟨by simp only [maxLen]; omega, by omega⟩, ?_⟩
     try simp only [tt, seval]
    all_goals exact ⟨rfl, rfl, rfl, rfl, rfl⟩
   case h2 =>
    intro f' hk0 hk1 hk2
    try simp only [tt, seval, hk0, hk1, hk2]
    refine CallQ.intro (l12SignC_d L hL hT y1 44 hy1) ?_ ?_ ?_
    ·decide
    ·simp only [tt, seval, PB, hk0, hk1, hk2]
    rintro r os ⟨rfl, rfl⟩ hos
    simp only [tt, seval, PB, hk0, hk1, hk2]
    cases c44 : isSg L y1 44 with
    | true =>
     have hlt := (isSg_lt c44).2
     simp only [tt, seval, Bool.not_true, hk0, hk1, hk2]
     refine CallQ.intro (l12Step_d L hL hT y1 true (fun _ => isSg_lt c44)) ?_ ?_ ?_
     ·decide
     ·simp only [tt, seval, PB, muT, hk0, hk1, hk2]
     rintro r os ⟨rfl, rfl⟩ hos
     simp only [tt, seval, PB, muT, hk0, hk1, hk2]
     cases n with
     | zero => cases hm
     | succ n =>
     rw [sepM, if_pos c44] at hm
     refine ⟨[(9000, .str (PB L (adv y1))), (3, .str [.v (.int .i64 3), .v (.bool false), .v (.slice none 0 0), .v (.slice none 0 0), .v (.slice none 0 0), .v (.slice none 0 0), .v (.int .i64 0), .v (.string tab), .v (.slice none 0 0), .s 16 ((m ++ [(xt, (Expr.mk k2 p2 n2 v2 q2 m2 ks2 ss2))])).length, .s 27 ((m ++ [(xt, (Expr.mk k2 p2 n2 v2 q2 m2 ks2 ss2))])).length, .v (.slice none 0 0)]), (16, .arr 9 ((m ++ [(xt, (Expr.mk k2 p2 n2 v2 q2 m2 ks2 ss2))])).length ((((m ++ [(xt, (Expr.mk k2 p2 n2 v2 q2 m2 ks2 ss2))])).map (·.1)).flatMap srow) none), (27, .arr 29 ((m ++ [(xt, (Expr.mk k2 p2 n2 v2 q2 m2 ks2 ss2))])).length ((((m ++ [(xt, (Expr.mk k2 p2 n2 v2 q2 m2 ks2 ss2))])).map (·.2)).flatMap Expr.row) none), (2, .str [.v (.int .i64 0), .v (.bool false), .v (.slice none 0 0), .v (.slice none 0 0), .v (.slice none 0 0), .v (.slice none 0 0), .v (.int .i64 0), .v (.string ByteArray.empty), .v (.slice none 0 0), .v (.slice none 0 0), .v (.slice none 0 0), .v (.slice none 0 0)])], none, by simp only [bae, PB, mLit, mCol, mKids, mUn, mBin, zExpr, zVal, z0, Expr.row_mk, Query.row_mk, List.flatMap_nil, List.flatMap_cons, List.append_nil, List.length_nil, List.length_cons, Val.row, List.cons_append, List.nil_append, List.flatMap_append, List.length_append, List.map_append, List.map_cons, List.map_nil, srow]; exact SubO.cons rfl (SubO.cons rfl (SubO.cons rfl (SubO.cons rfl (SubO.cons rfl (SubO.nil _))))), PoSub.none _, ⟨m ++ [(xt, (Expr.mk k2 p2 n2 v2 q2 m2 ks2 ss2))], adv y1, n, none, none, (by revert hm; cases setM L f (adv y1) with | none => exact id | some p => exact id), adv_le (isSg_lt c44), by simp [adv]; omega, rfl, rfl⟩, ?_⟩
     show L.length - (((adv y1).a : Int)).toNat < L.length - ((v.a : Int)).toNat
     show L.length - (((y1.a + 1 : Nat) : Int)).toNat < L.length - ((v.a : Int)).toNat
     omega
    | false =>
     have hm : some (m ++ [(xt, (Expr.mk k2 p2 n2 v2 q2 m2 ks2 ss2))], y1) = some (l, s2) := by
      cases n with
      | zero => cases hm
      | succ n => rw [sepM, if_neg (by rw [c44]; simp)] at hm; exact hm
     injection hm with hm; injection hm with e1 e2; subst e1 e2
     simp only [tt, seval, Bool.not_false, hk0, hk1, hk2]
     have cw := l12Where_step L hL hT hf1 _ _ _ hwh hy1
     refine CallQ.intro (cw) ?_ ?_ ?_
     ·decide
     ·simp only [tt, seval, PB, hk0, hk1, hk2]
     rintro r os ⟨rfl, rfl⟩ hos
     simp only [tt, seval, PB, hk0, hk1, hk2]
     refine ⟨.ag (csOf (Stmt.mk 3 zQuery tab [] ((m ++ [(xt, (Expr.mk k2 p2 n2 v2 q2 m2 ks2 ss2))]).map (·.1)) ((m ++ [(xt, (Expr.mk k2 p2 n2 v2 q2 m2 ks2 ss2))]).map (·.2)) w).row), [PB L s3], ⟨rfl, rfl⟩, endOk ?_⟩
     simp only [tt, seval, Stmt.row_mk, Query.row_mk, zQuery, ERow.row_mk, bae, PB, mLit, mCol, mKids, mUn, mBin, zExpr, zVal, z0, Expr.row_mk, Query.row_mk, List.flatMap_nil, List.flatMap_cons, List.append_nil, List.length_nil, List.length_cons, Val.row, List.cons_append, List.nil_append, PB, List.map_append, List.map_cons, List.map_nil, List.length_append, List.length_map, List.flatMap_append, srow]
theorem key_ne {L : List Tok} {s : PS} {j k : Nat} (h : isKey L s j = true) (hn : kw j ≠ kw k) : isKey L s k = false := by
 unfold isKey isT at h ⊢
 cases ht : tkAt L s 0 with
 | none => rfl
 | some t =>
  rw [ht] at h
  simp only [Bool.and_eq_true, decide_eq_true_eq] at h
  simp [h.2, hn]
theorem stepQ_bad {L : List Tok} {f : Nat → PM Expr} (hf : ∀ lv, OkM (L := L) (f lv)) {s : PS} {x : Query} {s' : PS} (hk : isKey L s 1 = false) (h : stepQ L f s = some (x, s')) : s' = fl s := by
 unfold stepQ at h
 simp only at h
 rw [hk] at h
 split at h
 ·cases h
 rename_i its s2 h1
 split at h
 ·cases h
 rename_i frs s4 h2
 split at h
 ·cases h
 rename_i wh s5 h3
 split at h
 ·cases h
 rename_i od s6 h4
 injection h with h; injection h with _ h; subst h
 have := (Ok.tkIf fun h => isKey_lt h).trans ((OkM.items hf _ _ _ h1).trans ((Ok.must fun h => isKey_lt h).trans ((Ok.sourceM _).trans ((OkM.sources hf _ _ _ _ _ h2).trans ((OkM.wher hf _ _ _ h3).trans ((OkM.order hf _ _ _ h4).trans (Ok.limitM _)))))))
 exact this.2.2 rfl
set_option maxHeartbeats 4000000 in
theorem l13Stmt_step (L : List Tok) (hL : L.length ≤ 1048576) (hT : ∀ t ∈ L, t.text.size ≤ 1048576) {f : Nat → PM Expr} {q : PM Query} (ok : ∀ lv, OkM (L := L) (f lv)) (hf1 : SpE L 39 [vi 1] (f 1)) (hq : SpQ L 53 q) (hqd : ∀ s, Df q s) (hqb : ∀ s x s', isKey L s 1 = false → q s = some (x, s') → s' = fl s) (s : PS) (x : Stmt) (s' : PS) (h : stmtM L f q s = some (x, s')) (ha : s.a ≤ L.length) : Cl Tryz.prog 64 [.c (.p 9000 0)] [PB L s] fun r os => (∃ y : Stmt, r = .ag (csOf y.row) ∧ (s'.b = false → y = x)) ∧ os = [PB L s'] := by
 unfold stmtM at h
 refine cl_of_d follows_mixed false Tryz.func64 rfl (by kernel_rfl) ?_
 simp only [Tryz.f64, tt, seval]
 refine CallQ.intro (l12Maybe_d L hL hT s 23 (by omega) (by omega) ha) ?_ ?_ ?_
 ·decide
 ·simp only [tt, seval, PB]
 rintro r os ⟨rfl, rfl⟩ hos
 simp only [tt, seval, PB]
 cases c1 : isKey L s 1 with
 | true =>
  have c23 : isKey L s 23 = false := key_ne c1 (by decide +kernel)
  have c26 : isKey L s 26 = false := key_ne c1 (by decide +kernel)
  have c28 : isKey L s 28 = false := key_ne c1 (by decide +kernel)
  rw [if_pos c1] at h
  split at h
  ·cases h
  rename_i y s1 hy
  injection h with h; injection h with h1 h2; subst h1 h2
  have cq := hq _ _ _ hy ha
  obtain ⟨d1, i1, f1, w1, o1, l1⟩ := y
  rw [Query.row_mk] at cq
  simp only [tt, seval, c23, tkT, tkF, muT, muF, Bool.false_eq_true]
  refine CallQ.intro (l12Maybe_d L hL hT s 26 (by omega) (by omega) ha) ?_ ?_ ?_
  ·decide
  ·simp only [tt, seval, PB]
  rintro r os ⟨rfl, rfl⟩ hos
  simp only [tt, seval, PB]
  simp only [tt, seval, c26, tkT, tkF, muT, muF, Bool.false_eq_true]
  refine CallQ.intro (l12Maybe_d L hL hT s 28 (by omega) (by omega) ha) ?_ ?_ ?_
  ·decide
  ·simp only [tt, seval, PB]
  rintro r os ⟨rfl, rfl⟩ hos
  simp only [tt, seval, PB]
  simp only [tt, seval, c28, tkT, tkF, muT, muF, Bool.false_eq_true]
  refine CallQ.intro (cq) ?_ ?_ ?_
  ·decide
  ·simp only [tt, seval, PB]
  rintro r os ⟨rfl, rfl⟩ hos
  simp only [tt, seval, PB]
  refine ⟨.ag (csOf (Stmt.mk 1 (Query.mk d1 i1 f1 w1 o1 l1) z0 [] [] [] []).row), [PB L (s1)], ⟨⟨Stmt.mk 1 (Query.mk d1 i1 f1 w1 o1 l1) z0 [] [] [] [], rfl, fun _ => rfl⟩, rfl⟩, endOk ?_⟩
  simp only [tt, seval, Stmt.row_mk, Query.row_mk, zQuery, ERow.row_mk, bae, PB, mLit, mCol, mKids, mUn, mBin, zExpr, zVal, z0, Expr.row_mk, Query.row_mk, List.flatMap_nil, List.flatMap_cons, List.append_nil, List.length_nil, List.length_cons, Val.row, List.cons_append, List.nil_append, PB]
 | false =>
 rw [if_neg (by rw [c1]; simp)] at h
 cases c23 : isKey L s 23 with
 | true =>
  rw [if_pos c23] at h
  simp only [tt, seval, tkT, tkF, muT, muF]
  have ci := l13Insert_step L hL hT ok hf1 _ _ _ h (adv_le (isKey_lt c23))
  obtain ⟨kz, ⟨dz, iz, fz, wz, oz, lz⟩, tz, rz, cz, sz, hz⟩ := x
  simp only [Stmt.row_mk, Query.row_mk, List.cons_append, List.nil_append] at ci
  refine CallQ.intro (ci) ?_ ?_ ?_
  ·decide
  ·simp only [tt, seval, PB]
  rintro r os ⟨rfl, rfl⟩ hos
  simp only [tt, seval, PB]
  refine ⟨.ag (csOf ((Stmt.mk kz (Query.mk dz iz fz wz oz lz) tz rz cz sz hz)).row), [PB L (s')], ⟨⟨(Stmt.mk kz (Query.mk dz iz fz wz oz lz) tz rz cz sz hz), rfl, fun _ => rfl⟩, rfl⟩, endOk ?_⟩
  simp only [tt, seval, Stmt.row_mk, Query.row_mk, zQuery, ERow.row_mk, bae, PB, mLit, mCol, mKids, mUn, mBin, zExpr, zVal, z0, Expr.row_mk, Query.row_mk, List.flatMap_nil, List.flatMap_cons, List.append_nil, List.length_nil, List.length_cons, Val.row, List.cons_append, List.nil_append, PB]
 | false =>
 rw [if_neg (by rw [c23]; simp)] at h
 simp only [tt, seval, tkT, tkF, muT, muF, Bool.false_eq_true]
 refine CallQ.intro (l12Maybe_d L hL hT s 26 (by omega) (by omega) ha) ?_ ?_ ?_
 ·decide
 ·simp only [tt, seval, PB]
 rintro r os ⟨rfl, rfl⟩ hos
 simp only [tt, seval, PB]
 cases c26 : isKey L s 26 with
 | true =>
  rw [if_pos c26] at h
  simp only [tt, seval, tkT, tkF, muT, muF]
  have ci := l13Update_step L hL hT ok hf1 _ _ _ h (adv_le (isKey_lt c26))
  obtain ⟨kz, ⟨dz, iz, fz, wz, oz, lz⟩, tz, rz, cz, sz, hz⟩ := x
  simp only [Stmt.row_mk, Query.row_mk, List.cons_append, List.nil_append] at ci
  refine CallQ.intro (ci) ?_ ?_ ?_
  ·decide
  ·simp only [tt, seval, PB]
  rintro r os ⟨rfl, rfl⟩ hos
  simp only [tt, seval, PB]
  refine ⟨.ag (csOf ((Stmt.mk kz (Query.mk dz iz fz wz oz lz) tz rz cz sz hz)).row), [PB L (s')], ⟨⟨(Stmt.mk kz (Query.mk dz iz fz wz oz lz) tz rz cz sz hz), rfl, fun _ => rfl⟩, rfl⟩, endOk ?_⟩
  simp only [tt, seval, Stmt.row_mk, Query.row_mk, zQuery, ERow.row_mk, bae, PB, mLit, mCol, mKids, mUn, mBin, zExpr, zVal, z0, Expr.row_mk, Query.row_mk, List.flatMap_nil, List.flatMap_cons, List.append_nil, List.length_nil, List.length_cons, Val.row, List.cons_append, List.nil_append, PB]
 | false =>
 rw [if_neg (by rw [c26]; simp)] at h
 simp only [tt, seval, tkT, tkF, muT, muF, Bool.false_eq_true]
 refine CallQ.intro (l12Maybe_d L hL hT s 28 (by omega) (by omega) ha) ?_ ?_ ?_
 ·decide
 ·simp only [tt, seval, PB]
 rintro r os ⟨rfl, rfl⟩ hos
 simp only [tt, seval, PB]
 cases c28 : isKey L s 28 with
 | true =>
  rw [if_pos c28] at h
  have hav := adv_le (L := L) (isKey_lt c28)
  unfold deleteM at h
  simp only at h
  simp only [tt, seval, tkT, tkF, muT, muF]
  refine CallQ.intro (l12Key_d L hL hT (adv s) 3 (by omega) (by omega) hav) ?_ ?_ ?_
  ·decide
  ·simp only [tt, seval, PB]
  rintro r os ⟨rfl, rfl⟩ hos
  simp only [tt, seval, PB]
  refine CallQ.intro (l12Step_d L hL hT (adv s) (isKey L (adv s) 3) (fun h => isKey_lt h)) ?_ ?_ ?_
  ·decide
  ·simp only [tt, seval, PB]
  rintro r os ⟨rfl, rfl⟩ hos
  simp only [tt, seval, PB]
  have o1 : Ok L (adv s) (must (isKey L (adv s) 3) (adv s)) := Ok.must fun h => isKey_lt h
  have ha1 := o1.2.1 hav
  generalize must (isKey L (adv s) 3) (adv s) = u1 at *
  refine CallQ.intro (l12Text_d L hL hT u1 2 (by omega) ha1) ?_ ?_ ?_
  ·decide
  ·simp only [tt, seval, PB]
  rintro r os ⟨rfl, rfl⟩ hos
  simp only [tt, seval, PB]
  have ha2 := (Ok.mText (L := L) 2 u1).2.1 ha1
  generalize (mText L 2 u1).2 = u2 at *
  generalize (mText L 2 u1).1 = tab at *
  split at h
  ·cases h
  rename_i w s2 hw
  injection h with h; injection h with h1 h2; subst h1 h2
  have cw := l12Where_step L hL hT hf1 _ _ _ hw ha2
  refine CallQ.intro (cw) ?_ ?_ ?_
  ·decide
  ·simp only [tt, seval, PB]
  rintro r os ⟨rfl, rfl⟩ hos
  simp only [tt, seval, PB]
  refine ⟨.ag (csOf (Stmt.mk 4 zQuery tab [] [] [] w).row), [PB L (s2)], ⟨⟨Stmt.mk 4 zQuery tab [] [] [] w, rfl, fun _ => rfl⟩, rfl⟩, endOk ?_⟩
  simp only [tt, seval, Stmt.row_mk, Query.row_mk, zQuery, ERow.row_mk, bae, PB, mLit, mCol, mKids, mUn, mBin, zExpr, zVal, z0, Expr.row_mk, Query.row_mk, List.flatMap_nil, List.flatMap_cons, List.append_nil, List.length_nil, List.length_cons, Val.row, List.cons_append, List.nil_append, PB]
 | false =>
  rw [if_neg (by rw [c28]; simp)] at h
  injection h with h; injection h with h1 h2; subst h1 h2
  simp only [tt, seval, tkT, tkF, muT, muF, Bool.false_eq_true]
  obtain ⟨y, s1, hy⟩ := hqd s
  have e1 := hqb _ _ _ c1 hy
  subst e1
  have cq := hq _ _ _ hy ha
  obtain ⟨d1, i1, f1, w1, o1, l1⟩ := y
  rw [Query.row_mk] at cq
  refine CallQ.intro (cq) ?_ ?_ ?_
  ·decide
  ·simp only [tt, seval, PB]
  rintro r os ⟨rfl, rfl⟩ hos
  simp only [tt, seval, PB]
  refine ⟨.ag (csOf (Stmt.mk 1 (Query.mk d1 i1 f1 w1 o1 l1) z0 [] [] [] []).row), [PB L (fl s)], ⟨⟨_, rfl, fun h => by cases h⟩, rfl⟩, endOk ?_⟩
  simp only [tt, seval, Stmt.row_mk, Query.row_mk, zQuery, ERow.row_mk, bae, PB, mLit, mCol, mKids, mUn, mBin, zExpr, zVal, z0, Expr.row_mk, Query.row_mk, List.flatMap_nil, List.flatMap_cons, List.append_nil, List.length_nil, List.length_cons, Val.row, List.cons_append, List.nil_append, PB]
theorem endM_good {L : List Tok} {s : PS} (h : ¬ 0 ≤ endM L s) : s.b = false := by
 unfold endM at h
 split at h
 ·rename_i hb; exact hb.1
 ·exact absurd (Int.natCast_nonneg _) h
theorem TakeStmt_d (L : List Tok) (hL : L.length ≤ 1048576) (hT : ∀ t ∈ L, t.text.size ≤ 1048576) : Cl Tryz.prog 24 [.c (.sl L.length (L.flatMap Tok.row) none)] [] fun r _ => r = .tu [(csOf (takeS L).1.row, false), ([.v (.int .i64 (takeS L).2)], true)] := by
 have ok := fun lv => pExpr_ok (L := L) lv
 obtain ⟨x, s1, hx⟩ := stmt_all (f := pExpr L) ok (fun s => pExpr_df 1 (by omega) (by omega) s) (fun s => pQuery_df s) s0
 have ha := (OkM.stmt ok pQuery_ok _ _ _ hx).2.1 (Nat.zero_le _)
 have c1 := l13Stmt_step L hL hT ok (l12Expr_d L hL hT 1 (by omega) (by omega)) (l12Query_d L hL hT) (fun s => pQuery_df s) (fun s x s' hk h => by
  rw [pQuery_eq] at h
  exact stepQ_bad ok hk h) _ _ _ hx (Nat.zero_le _)
 have ht : takeS L = takeM L zStmt (some (x, s1)) := by unfold takeS; rw [hx]
 rw [ht]
 refine cl_of_d follows_mixed false Tryz.func24 rfl (by kernel_rfl) ?_
 simp only [Tryz.f24, tt, seval]
 refine CallQ.intro (c1) ?_ ?_ ?_
 ·decide
 ·simp only [tt, seval, PB, s0]
 rintro r os ⟨⟨y, rfl, hy⟩, rfl⟩ hos
 simp only [tt, seval, PB, s0]
 obtain ⟨kz, ⟨dz, iz, fz, wz, oz, lz⟩, tz, rz, cz, sz, hz⟩ := y
 simp only [tt, seval, Stmt.row_mk, Query.row_mk, zQuery, ERow.row_mk, bae, PB, mLit, mCol, mKids, mUn, mBin, zExpr, zVal, z0, Expr.row_mk, Query.row_mk, List.flatMap_nil, List.flatMap_cons, List.append_nil, List.length_nil, List.length_cons, Val.row, List.cons_append, List.nil_append]
 refine CallQ.intro (l12End_d L hL hT s1 ha) ?_ ?_ ?_
 ·decide
 ·simp only [tt, seval, PB]
 rintro r os ⟨rfl, rfl⟩ hos
 simp only [tt, seval, PB]
 refine And.intro (fun hb => ?_) (fun hb => ?_)
 ·have e : takeM L zStmt (some (x, s1)) = (zStmt, endM L s1) := if_pos hb
  rw [e]
  refine ⟨_, [], rfl, endOk ?_⟩
  simp only [tt, seval, Stmt.row_mk, Query.row_mk, zQuery, ERow.row_mk, bae, PB, mLit, mCol, mKids, mUn, mBin, zExpr, zVal, z0, Expr.row_mk, Query.row_mk, List.flatMap_nil, List.flatMap_cons, List.append_nil, List.length_nil, List.length_cons, Val.row, List.cons_append, List.nil_append, zStmt, List.flatMap_nil, List.length_nil]
 ·have e : takeM L zStmt (some (x, s1)) = (x, -1) := if_neg (by omega)
  rw [e, ← hy (endM_good (by omega))]
  refine ⟨_, [], rfl, endOk ?_⟩
  simp only [tt, seval, Stmt.row_mk, Query.row_mk, zQuery, ERow.row_mk, bae, PB, mLit, mCol, mKids, mUn, mBin, zExpr, zVal, z0, Expr.row_mk, Query.row_mk, List.flatMap_nil, List.flatMap_cons, List.append_nil, List.length_nil, List.length_cons, Val.row, List.cons_append, List.nil_append]
end Go.Proofs.YteffjmaadkkmeaaGreatDoor
set_option maxRecDepth 8000
namespace Go.Proofs.YteffjmaadkkmeaaGreatDoor
open Go Go.Dv Go.Cv
open Go.Vc (D shrI xorI andI and255)
theorem pstmt_d (L : List Tok) (hL : L.length ≤ 1048576) (hT : ∀ t ∈ L, t.text.size ≤ 1048576) : TpS L 65 (stmtM L (pExpr L) (pQuery L)) := pstmt_step L hL hT (fun lv => pExpr_ok lv) pQuery_ok (por_d L hL hT) (pquery_d L hL hT)
set_option maxHeartbeats 4000000 in
theorem iTakeStmt_d (L : List Tok) (hL : L.length ≤ 1048576) (hT : ∀ t ∈ L, t.text.size ≤ 1048576) : Cl Tryz.prog 25 [.c (.sl L.length (L.flatMap Tok.row) none)] [] fun r _ => ∃ Fi Ff Fw Fo Fr Fc Fe Fx, r = .tu [(told (takeS L).1.row [Fi, Ff, Fw, Fo, Fr, Fc, Fe, Fx], false), ([.v (.int .i64 (takeS L).2)], true)] := by
 obtain ⟨x, s1, hx⟩ := stmt_all (f := pExpr L) (fun lv => pExpr_ok (L := L) lv) (fun s => pExpr_df 1 (by omega) (by omega) s) (fun s => pQuery_df s) s0
 have ha := (OkM.stmt (fun lv => pExpr_ok (L := L) lv) pQuery_ok _ _ _ hx).2.1 (Nat.zero_le _)
 have c1 := pstmt_d L hL hT _ _ _ hx (Nat.zero_le _)
 have ht : takeS L = takeM L zStmt (some (x, s1)) := by unfold takeS; rw [hx]
 rw [ht]
 obtain ⟨kz, ⟨dz, iz, fz, wz, oz, lz⟩, tz, rz, cz, sz, hz⟩ := x
 simp only [Stmt.row_mk, Query.row_mk, List.cons_append, List.nil_append] at c1
 refine cl_of_d follows_mixed true Tryz.func25 rfl (by kernel_rfl) ?_
 simp only [Tryz.f25, tt, seval]
 refine CallQ.intro (c1) ?_ ?_ ?_
 ·decide
 ·simp only [tt, seval, PB, s0, told, Val.row, List.cons_append, List.nil_append]
 rintro r os ⟨⟨Fi, Ff, Fw, Fo, Fr, Fc, Fe, Fx, rfl⟩, rfl⟩ hos
 simp only [tt, seval, PB, s0, told, Val.row, List.cons_append, List.nil_append]
 refine CallQ.intro (pend_d L hL hT s1 ha) ?_ ?_ ?_
 ·decide
 ·simp only [tt, seval, PB]
 rintro r os ⟨rfl, rfl⟩ hos
 simp only [tt, seval, PB]
 refine And.intro (fun hb => ?_) (fun hb => ?_)
 ·have e : takeM L zStmt (some ((Stmt.mk kz (Query.mk dz iz fz wz oz lz) tz rz cz sz hz), s1)) = (zStmt, endM L s1) := if_pos hb
  rw [e]
  refine ⟨.tu [(told zStmt.row [[], [], [], [], [], [], [], []], false), ([.v (.int .i64 (endM L s1))], true)], [], ⟨[], [], [], [], [], [], [], [], rfl⟩, endOk ?_⟩
  simp only [tt, seval, Stmt.row_mk, Query.row_mk, zStmt, zQuery, ERow.row_mk, srow, bae, PB, mLit, mCol, mKids, mUn, mBin, zExpr, zVal, z0, Expr.row_mk, Query.row_mk, List.flatMap_nil, List.flatMap_cons, List.append_nil, List.length_nil, List.length_cons, told, Val.row, List.cons_append, List.nil_append]
  first | done | exact pool_ok fun x => by simp only [List.flatten_append, List.flatten_cons, List.flatten_nil, List.count_append, List.append_nil, List.nil_append, List.count_nil]; omega | exact ⟨by omega, Sb.refl _⟩ | exact ⟨by omega, pool_ok fun x => by simp only [List.flatten_append, List.flatten_cons, List.flatten_nil, List.count_append, List.append_nil, List.nil_append, List.count_nil]; omega⟩
 ·have e : takeM L zStmt (some ((Stmt.mk kz (Query.mk dz iz fz wz oz lz) tz rz cz sz hz), s1)) = ((Stmt.mk kz (Query.mk dz iz fz wz oz lz) tz rz cz sz hz), -1) := if_neg (by omega)
  rw [e]
  refine ⟨.tu [(told (Stmt.mk kz (Query.mk dz iz fz wz oz lz) tz rz cz sz hz).row [Fi, Ff, Fw, Fo, Fr, Fc, Fe, Fx], false), ([.v (.int .i64 (-1))], true)], [], ⟨Fi, Ff, Fw, Fo, Fr, Fc, Fe, Fx, rfl⟩, endOk ?_⟩
  simp only [tt, seval, Stmt.row_mk, Query.row_mk, zStmt, zQuery, ERow.row_mk, srow, bae, PB, mLit, mCol, mKids, mUn, mBin, zExpr, zVal, z0, Expr.row_mk, Query.row_mk, List.flatMap_nil, List.flatMap_cons, List.append_nil, List.length_nil, List.length_cons, told, Val.row, List.cons_append, List.nil_append]
  first | done | exact pool_ok fun x => by simp only [List.flatten_append, List.flatten_cons, List.flatten_nil, List.count_append, List.append_nil, List.nil_append, List.count_nil]; omega | exact ⟨by omega, Sb.refl _⟩ | exact ⟨by omega, pool_ok fun x => by simp only [List.flatten_append, List.flatten_cons, List.flatten_nil, List.count_append, List.append_nil, List.nil_append, List.count_nil]; omega⟩
end Go.Proofs.YteffjmaadkkmeaaGreatDoor
