/-
  Reading a catalog.
  Conditions: none.
-/
import Derived.Test.YtijldlppojdehaaGreatDoorDNE
import Derived.Test.YtijldlppojdehaaGreatDoorDND
import Derived.Test.YtijldlppojdehaaGreatDoorDNY1
set_option linter.unusedVariables false
set_option linter.unusedSimpArgs false
set_option linter.unusedSectionVars false
set_option maxRecDepth 8000
namespace Go.Proofs.YtijldlppojdehaaGreatDoor
open Go Go.Dv
open Go.Vc (D shrI xorI andI and255)
theorem col_snoc (f : ByteArray → Int) (acc : List (ByteArray × ByteArray)) (a w : ByteArray) : (acc.map (cgCol f)).flatMap Col.row ++ [str a, int (f w)] = ((acc ++ [(a, w)]).map (cgCol f)).flatMap Col.row := by
 rw [List.map_append, List.flatMap_append]; simp [cgCol, Col.row_mk]
theorem col_snocl (f : ByteArray → Int) (acc : List (ByteArray × ByteArray)) (a w : ByteArray) : (acc.map (cgCol f)).length + 1 = ((acc ++ [(a, w)]).map (cgCol f)).length := by simp
set_option maxHeartbeats 4000000 in
theorem l16Table_d (L : List Tok) (hL : L.length ≤ 1048576) (hT : ∀ t ∈ L, t.text.size ≤ 1048576) (s : PS) (ha : s.a ≤ L.length) : Cl Tryz.prog 49 [.c (.p 9000 0)] [PB L s] fun r os => (∃ t : Table, r = .ag (csOf t.row) ∧ ((rdTab L s).2.b = false → t = cgTab cgS (rdTab L s).1)) ∧ os = [PB L (rdTab L s).2] := by
 have o1 := Ok.mText (L := L) 2 s
 have ha1 := o1.2.1 ha
 have hr : rdTab L s = (((mText L 2 s).1, (rdCols L (L.length + 1) (must (isSg L (mText L 2 s).2 40) (mText L 2 s).2)).1), must (isSg L (rdCols L (L.length + 1) (must (isSg L (mText L 2 s).2 40) (mText L 2 s).2)).2 41) (rdCols L (L.length + 1) (must (isSg L (mText L 2 s).2 40) (mText L 2 s).2)).2) := rfl
 rw [hr]
 clear hr
 refine cl_of_d follows_mixed false Tryz.func49 rfl (by kernel_rfl) ?_
 simp only [Tryz.f49, tt, seval]
 refine cS (l12Text_d L hL hT s 2 (by omega) ha) (by decide) ?_ ?_ <;> simp only [tt, seval, PB]
 generalize (mText L 2 s).1 = nm at *
 generalize (mText L 2 s).2 = u at *
 refine cS (l12Sign_d L hL hT u ⟨#[40]⟩ ha1) (by decide) ?_ ?_ <;> simp only [tt, seval, PB]
 rw [show isT L u 0 5 ⟨#[40]⟩ = isSg L u 40 from rfl]
 refine cS (l12Step_d L hL hT u (isSg L u 40) (fun h => isSg_lt h)) (by decide) ?_ ?_ <;> simp only [tt, seval, PB]
 have o2 : Ok L u (must (isSg L u 40) u) := Ok.must fun h => isSg_lt h
 have ha2 := o2.2.1 ha1
 generalize must (isSg L u 40) u = w at *
 have ow := rdCols_ok (L := L) (L.length + 1) w
 obtain ⟨tot, htot⟩ : ∃ tot, tot = rdCols L (L.length + 1) w := ⟨_, rfl⟩
 rw [← htot] at ow ⊢
 refine dLoop.gh [.virtC 3 1 27 97] ⟨by decide, ?_⟩
 refine dLoop0.intro (fun f' Lo p => ∃ (v : PS) (acc : List (ByteArray × ByteArray)) (Fq : Fp), v.a ≤ L.length ∧ acc.length ≤ v.a ∧ ((v.b = true ∧ v = w ∧ acc = []) ∨ (v.b = false ∧ ∃ n, L.length - v.a < n ∧ acc ++ (rdCols L n v).1 = tot.1 ∧ (rdCols L n v).2 = tot.2)) ∧ Lo = [(9000, .str (PB L v)), (3, .str [.v (.string nm), .s 27 ((acc.map (cgCol cgS))).length]), (27, .arr 97 ((acc.map (cgCol cgS))).length (((acc.map (cgCol cgS))).flatMap Col.row) Fq), (2, .str [.v (.string ByteArray.empty), .v (.slice none 0 0)])] ∧ p = none) (fun _ Lo _ => L.length - atS Lo) [(9000, .str (PB L w)), (3, .str [.v (.string nm), .s 27 (([] : List Col)).length]), (27, .arr 97 (([] : List Col)).length ((([] : List Col)).flatMap Col.row) (some [])), (2, .str [.v (.string ByteArray.empty), .v (.slice none 0 0)])] none ⟨SubO.cons rfl (SubO.cons rfl (SubO.cons rfl (SubO.cons rfl (SubO.nil _)))), PoSub.none _, ?_⟩ ?_
 ·refine ⟨w, [], some [], ha2, Nat.zero_le _, ?_, rfl, rfl⟩
  cases hwb : w.b with
  | true => exact Or.inl ⟨rfl, rfl, rfl⟩
  | false => exact Or.inr ⟨rfl, L.length + 1, by omega, by rw [← htot]; rfl, by rw [← htot]⟩
 ·rintro g' Lo p ⟨v, acc, Fq, hv, hal, hst, rfl, rfl⟩
  simp only [tt, seval, PB]
  cases hvb : v.b with
  | true =>
   rcases hst with ⟨_, hvw, hac⟩ | ⟨hf, _⟩
   case inr => rw [hvb] at hf; cases hf
   subst hvw hac
   have h2 : v = tot.2 := (ow.2.2 hvb).symm
   try simp only [tt, seval, hvb]
   rw [show [C.sl L.length (L.flatMap Tok.row) none, .v (.int .i64 v.a), .v (.bool true)] = PB L v by rw [PB, hvb]]
   refine cS (l12Sign_d L hL hT v ⟨#[41]⟩ hv) (by decide) ?_ ?_ <;> simp only [tt, seval, PB]
   rw [show isT L v 0 5 ⟨#[41]⟩ = isSg L v 41 from rfl]
   refine cS (l12Step_d L hL hT v (isSg L v 41) (fun h => isSg_lt h)) (by decide) ?_ ?_ <;> simp only [tt, seval, PB]
   refine ⟨.ag (csOf (Table.mk nm (([] : List (ByteArray × ByteArray)).map (cgCol cgS))).row), [PB L (must (isSg L v 41) v)], ⟨⟨Table.mk nm (([] : List (ByteArray × ByteArray)).map (cgCol cgS)), rfl, fun hb => ?_⟩, by first | (rw [h2]; done) | (rw [h2]; rfl)⟩, endOk ?_⟩
   ·have hb2 := (Ok.must (L := L) (c := isSg L tot.2 41) fun h => isSg_lt h).nb' hb
    rw [cgTab, show ([] : List (ByteArray × ByteArray)) = tot.1 by rw [← h2, hvb] at hb2; cases hb2]
   simp only [tt, seval, PB, Table.row_mk]
  | false =>
   rcases hst with ⟨hf, _⟩ | ⟨_, n, hn, h1, h2⟩
   ·rw [hvb] at hf; cases hf
   cases n with
   | zero => omega
   | succ n =>
   rw [rdCols] at h1 h2
   try simp only [tt, seval, hvb]
   rw [show [C.sl L.length (L.flatMap Tok.row) none, .v (.int .i64 v.a), .v (.bool false)] = PB L v by rw [PB, hvb]]
   have c1 := l12Text_d L hL hT v 2 (by omega) hv
   have p1 := Ok.mText (L := L) 2 v
   have hx1 := p1.2.1 hv
   have c2 := l12Text_d L hL hT (mText L 2 v).2 2 (by omega) hx1
   have p2 := Ok.mText (L := L) 2 (mText L 2 v).2
   have hx2 := p2.2.1 hx1
   have e1 : colP L v = (((mText L 2 v).1, (mText L 2 (mText L 2 v).2).1), (mText L 2 (mText L 2 v).2).2) := rfl
   rw [e1] at h1 h2
   generalize (mText L 2 v).1 = cn at *
   generalize (mText L 2 v).2 = v1 at *
   generalize (mText L 2 v1).1 = cw at *
   generalize (mText L 2 v1).2 = x at *
   refine cS (c1) (by decide) ?_ ?_ <;> simp only [tt, seval, PB]
   refine dDrawn.intro [23] (.take 0 (.take 2 (.take 3 (.br 1 (.br 4 (.br 5 (.take 6 (.br 7 (.br 8 (.take 9 (.br 10 .done .nobr)) .nobr) .nobr)) .nobr) .nobr) (.br 4 (.take 1 (.br 5 (.take 6 (.br 7 (.br 8 (.take 9 (.br 10 .done .nobr)) .nobr) .nobr)) .nobr)) .nobr))))) (by kernel_rfl) ?_
   simp only [tt, seval]
   all_goals try simp only [tt, seval, PB]
   all_goals repeat' first | refine brC ?_ ?_ | refine brC2 ?_ ?_
   all_goals
    refine cS (c2) (by decide) ?_ ?_
    ·simp only [tt, seval, PB]
     try decide
    simp only [tt, seval, PB]
   all_goals
    refine cZ (l16Type_d cw) (by decide) ?_ ?_ <;> simp only [tt, seval, PB]
   all_goals
    refine ⟨by kernel_rfl, ⟨by simp only [maxLen, List.length_map]; omega, by simp only [List.length_map]; omega⟩, ?_⟩
    rw [col_snoc cgS acc cn cw, col_snocl cgS acc cn cw]
    try simp only [tt, seval, PB]
   all_goals
    refine cS (l12Sign_d L hL hT x ⟨#[44]⟩ hx2) (by decide) ?_ ?_ <;> simp only [tt, seval, PB]
    rw [show isT L x 0 5 ⟨#[44]⟩ = isSg L x 44 from rfl]
    cases c44 : isSg L x 44 with
    | true =>
     rw [if_pos c44] at h1 h2
     have hlt := isSg_lt c44
     try simp only [tt, seval, c44]
     refine cS (l12Step_d L hL hT x true (fun _ => hlt)) (by decide) ?_ ?_ <;> simp only [tt, seval, PB]
     rw [show must true x = adv x from rfl]
     refine ⟨[(9000, .str (PB L (adv x))), (3, .str [.v (.string nm), .s 27 (((acc ++ [(cn, cw)]).map (cgCol cgS))).length]), (27, .arr 97 (((acc ++ [(cn, cw)]).map (cgCol cgS))).length ((((acc ++ [(cn, cw)]).map (cgCol cgS))).flatMap Col.row) none), (2, .str [.v (.string ByteArray.empty), .v (.slice none 0 0)])], none, SubO.cons rfl (SubO.cons rfl (SubO.cons rfl (SubO.cons rfl (SubO.nil _)))), PoSub.none _, ⟨adv x, acc ++ [(cn, cw)], none, adv_le hlt, ?_, Or.inr ⟨hlt.1, n, ?_, by rw [← h1]; simp, h2⟩, rfl, rfl⟩, ?_⟩
     ·have : (adv x).a = x.a + 1 := rfl
      have := p1.1; have := p2.1
      rw [List.length_append]; simp only [List.length_cons, List.length_nil]; omega
     ·have : (adv x).a = x.a + 1 := rfl
      have := p1.1; have := p2.1
      omega
     ·have := p1.1; have := p2.1; have := hlt.2
      show L.length - (((x.a + 1 : Nat) : Int)).toNat < L.length - ((v.a : Int)).toNat
      omega
    | false =>
     rw [if_neg (by rw [c44]; simp)] at h1 h2
     try simp only [tt, seval, c44]
     have h2' : x = tot.2 := h2
     refine cS (l12Sign_d L hL hT x ⟨#[41]⟩ hx2) (by decide) ?_ ?_ <;> simp only [tt, seval, PB]
     rw [show isT L x 0 5 ⟨#[41]⟩ = isSg L x 41 from rfl]
     refine cS (l12Step_d L hL hT x (isSg L x 41) (fun h => isSg_lt h)) (by decide) ?_ ?_ <;> simp only [tt, seval, PB]
     refine ⟨.ag (csOf (Table.mk nm ((acc ++ [(cn, cw)]).map (cgCol cgS))).row), [PB L (must (isSg L x 41) x)], ⟨⟨Table.mk nm ((acc ++ [(cn, cw)]).map (cgCol cgS)), rfl, fun hb => ?_⟩, by first | (rw [h2']; done) | (rw [h2']; rfl)⟩, endOk ?_⟩
     ·have hb2 := (Ok.must (L := L) (c := isSg L tot.2 41) fun h => isSg_lt h).nb' hb
      rw [cgTab, ← h1]
     simp only [tt, seval, PB, Table.row_mk]
def catD (f : ByteArray → Int) (s : ByteArray) : Option (List Table) := match lexR s with | .inl L => catR L f | .inr _ => none
def rcS : Option (List Table) → S
 | some t => .tu [(csOf (Catalog.mk t).row, false), ([.v (.bool true)], true)]
 | none => .tu [(csOf (Catalog.mk []).row, false), ([.v (.bool false)], true)]
def atB (k n : Nat) (Lo : Ob) : Nat := match Go.Dv.look Lo k with | some (.str [_, .v (.int _ a), .v (.bool b)]) => if b = true then 0 else 1 + (n - a.toNat) | _ => 0
theorem rdCat_bad {L : List Tok} (n i : Nat) {s : PS} (h : s.b = true) : (rdCat L n i s).2 = s := by
 cases n with
 | zero => rfl
 | succ n => rw [rdCat, if_neg (by rw [h]; simp)]
theorem tok_text {L : List Tok} (hok : ∀ t ∈ L, okTok t = true) : ∀ t ∈ L, t.text.size ≤ 40 := fun t ht => tok40 (hok t ht)
theorem rd_round {L : List Tok} {n i : Nat} {v : PS} (hb : v.b = false) (hlt : v.a < L.length) (hn : L.length - v.a < n) {acc : List (ByteArray × List (ByteArray × ByteArray))} (hi : acc.length = i) {tot : List (ByteArray × List (ByteArray × ByteArray)) × PS} (h1 : acc ++ (rdCat L n i v).1 = tot.1) (h2 : (rdCat L n i v).2 = tot.2) :
 ((rdTab L (comS L i v)).2.b = true → (rdTab L (comS L i v)).2 = tot.2) ∧ ((rdTab L (comS L i v)).2.b = false → v.a < (rdTab L (comS L i v)).2.a ∧ ∃ n', L.length - (rdTab L (comS L i v)).2.a < n' ∧ (acc ++ [(rdTab L (comS L i v)).1]) ++ (rdCat L n' (acc ++ [(rdTab L (comS L i v)).1]).length (rdTab L (comS L i v)).2).1 = tot.1 ∧ (rdCat L n' (acc ++ [(rdTab L (comS L i v)).1]).length (rdTab L (comS L i v)).2).2 = tot.2) := by
 cases n with
 | zero => omega
 | succ n =>
 rw [rdCat, if_pos ⟨hb, hlt⟩] at h1 h2
 have hw := (comS_ok (L := L) i v).1
 refine ⟨fun e => ?_, fun e => ?_⟩
 ·rw [← h2]; exact (rdCat_bad _ _ e).symm
 ·have := rdTab_lt e
  refine ⟨by omega, n, by omega, ?_, ?_⟩
  ·rw [← h1]; simp [hi]
  ·rw [← h2]; simp [hi]
theorem rd_done {L : List Tok} {n i : Nat} {v : PS} (hlt : ¬ v.a < L.length) : rdCat L n i v = ([], v) := by
 cases n with
 | zero => rfl
 | succ n => rw [rdCat, if_neg (by omega)]
theorem atB_mk {n k : Nat} {c : C} {i : IntKind} {a : Int} {b : Bool} {r : Ob} : atB k n ((k, .str [c, .v (.int i a), .v (.bool b)]) :: r) = if b = true then 0 else 1 + (n - a.toNat) := by
 unfold atB Go.Dv.look
 simp
theorem tab_snoc (l : List Table) (tn : ByteArray) (tc : List Col) : l.flatMap Table.row ++ [str tn, .sl tc.length (tc.flatMap Col.row)] = (l ++ [Table.mk tn tc]).flatMap Table.row := by
 rw [List.flatMap_append, List.flatMap_singleton, Table.row_mk]
theorem tab_snocl (l : List Table) (tn : ByteArray) (tc : List Col) : l.length + 1 = (l ++ [Table.mk tn tc]).length := by simp
set_option maxHeartbeats 4000000 in
theorem ReadCatalog_d (s : ByteArray) : Cl Tryz.prog 23 [vs s] [] fun r _ => r = rcS (catD cgS s) := by
 have cl := Lex_d s
 refine cl_of_d follows_mixed false Tryz.func23 rfl (by kernel_rfl) ?_
 simp only [Tryz.f23, tt, seval]
 cases hlx : lexR s with
 | inr p =>
  rw [hlx] at cl
  rw [show catD cgS s = none by rw [catD, hlx]]
  have h0 : (0 ≤ (p : Int)) = True := eq_true (by omega)
  refine cZ (cl) (by decide) ?_ ?_ <;> simp only [tt, seval, lexV]
  simp only [tt, seval, h0, true_implies, not_true_eq_false, false_implies, and_true]
  refine ⟨.tu [(csOf (Catalog.mk []).row, false), ([.v (.bool false)], true)], [], rfl, endOk ?_⟩
  simp only [tt, seval, Catalog.row_mk, List.flatMap_nil, List.length_nil]
 | inl L =>
  rw [hlx] at cl
  rw [show catD cgS s = catR L cgS by rw [catD, hlx]]
  obtain ⟨hL2, hok⟩ := lex_toks hlx
  have hT40 := tok_text hok
  have hL : L.length ≤ 1048576 := by omega
  have hT : ∀ t ∈ L, t.text.size ≤ 1048576 := fun t ht => by have := hT40 t ht; omega
  obtain ⟨z, hz⟩ : ∃ z, z = catR L cgS := ⟨_, rfl⟩
  rw [← hz]
  obtain ⟨tot, htot⟩ : ∃ tot, tot = rdAll L := ⟨_, rfl⟩
  rw [catR, ← htot] at hz
  refine cZ (cl) (by decide) ?_ ?_ <;> simp only [tt, seval, lexV]
  try simp only [tt, seval, not_false_eq_true, true_implies, false_implies, true_and]
  refine dLoop.gh [.virtC 7 0 47 83] ⟨by decide, ?_⟩
  refine dLoop0.intro (fun f' Lo p => ∃ (v : PS) (acc : List (ByteArray × List (ByteArray × ByteArray))) (tabs : List Table) (Fq : Fp), v.a ≤ L.length ∧ acc.length ≤ v.a + 1 ∧ (v.b = false → acc.length ≤ v.a) ∧ tabs.length = acc.length ∧ (v.b = false → tabs = acc.map (cgTab cgS)) ∧ (v.b = true → v = tot.2) ∧ (v.b = false → ∃ n, L.length - v.a < n ∧ acc ++ (rdCat L n acc.length v).1 = tot.1 ∧ (rdCat L n acc.length v).2 = tot.2) ∧ Lo = [(18, .str (PB L v)), (7, .str [.s 47 (tabs).length]), (47, .arr 83 (tabs).length ((tabs).flatMap Table.row) Fq), (2, .str [.v (.slice none 0 0)])] ∧ p = none) (fun _ Lo _ => atB 18 L.length Lo) [(18, .str (PB L (⟨0, false⟩ : PS))), (7, .str [.s 47 (([] : List Table)).length]), (47, .arr 83 (([] : List Table)).length ((([] : List Table)).flatMap Table.row) (some [])), (2, .str [.v (.slice none 0 0)])] none ⟨SubO.cons rfl (SubO.cons rfl (SubO.cons rfl (SubO.cons rfl (SubO.nil _)))), PoSub.none _, ?_⟩ ?_
  ·exact ⟨⟨0, false⟩, [], [], some [], Nat.zero_le _, Nat.zero_le _, fun _ => Nat.zero_le _, rfl, fun _ => rfl, (fun e => by cases e), fun _ => ⟨L.length + 1, by omega, by rw [htot]; rfl, by rw [htot]; rfl⟩, rfl, rfl⟩
  rintro g' Lo p ⟨v, acc, tabs, Fq, hv, hal, hal2, htl, hta, hbad, hmod, rfl, rfl⟩
  simp only [tt, seval, PB]
  cases hvb : v.b with
  | true =>
   have hb2 := hbad hvb
   try simp only [tt, seval, hvb]
   have hzn : z = none := by rw [hz, if_neg (fun h => by rw [← hb2, hvb] at h; cases h.1)]
   rw [hzn]
   try simp only [tt, seval, hvb]
   refine ⟨.tu [(csOf (Catalog.mk []).row, false), ([.v (.bool false)], true)], [], rfl, endOk ?_⟩
   simp only [tt, seval, Catalog.row_mk, List.flatMap_nil, List.length_nil]
  | false =>
   try simp only [tt, seval, hvb]
   refine fun _ => And.intro (fun hlt => ?_) (fun hge => ?_)
   ·have hvlt : v.a < L.length := by omega
    obtain ⟨n, hn, h1, h2⟩ := hmod hvb
    have hal2' := hal2 hvb
    obtain ⟨k1, k2⟩ := rd_round hvb hvlt hn rfl h1 h2
    have ow := comS_ok (L := L) acc.length v
    have hwa := ow.2.1 hv
    obtain ⟨w, hw⟩ : ∃ w, w = comS L acc.length v := ⟨_, rfl⟩
    rw [← hw] at k1 k2 ow hwa
    have cT := l16Table_d L hL hT w hwa
    have oT := rdTab_ok (L := L) w
    have hxa := oT.2.1 hwa
    obtain ⟨x, hx⟩ : ∃ x, x = rdTab L w := ⟨_, rfl⟩
    rw [← hx] at k1 k2 cT oT hxa
    refine fun _ => And.intro (fun hc => ?_) (fun hc => ?_)
    case' refine_1 =>
     have ew : w = must (isSg L v 44) v := by rw [hw, comS, if_pos (by omega)]
     try simp only [tt, seval, PB]
     rw [show [C.sl L.length (L.flatMap Tok.row) none, .v (.int .i64 v.a), .v (.bool false)] = PB L v by rw [PB, hvb]]
     refine cS (l12Sign_d L hL hT v ⟨#[44]⟩ hv) (by decide) ?_ ?_ <;> simp only [tt, seval, PB]
     rw [show isT L v 0 5 ⟨#[44]⟩ = isSg L v 44 from rfl]
     refine cS (l12Step_d L hL hT v (isSg L v 44) (fun h => isSg_lt h)) (by decide) ?_ ?_ <;> simp only [tt, seval, PB]
     rw [← ew]
    case' refine_2 =>
     have ew : w = v := by rw [hw, comS, if_neg (by omega)]
     try simp only [tt, seval, PB]
     rw [show [C.sl L.length (L.flatMap Tok.row) none, .v (.int .i64 v.a), .v (.bool false)] = PB L w by rw [ew, PB, hvb]]
    all_goals
     refine dDrawn.intro [45] (.take 0 (.take 2 (.br 1 (.br 3 (.br 4 (.br 5 (.take 6 (.br 7 .done .nobr)) .nobr) .nobr) .nobr) (.br 3 (.take 1 (.br 4 (.br 5 (.take 6 (.br 7 .done .nobr)) .nobr) .nobr)) .nobr)))) (by kernel_rfl) ?_
     simp only [tt, seval]
     all_goals try simp only [tt, seval, PB]
     all_goals repeat' first | refine brC ?_ ?_ | refine brC2 ?_ ?_
     all_goals
      refine CallQ.intro (cT) ?_ ?_ ?_
      ·decide
      ·simp only [tt, seval, PB, Table.row_mk, lc]
       try decide
      rintro r os ⟨⟨⟨tn, tc⟩, rfl, ht⟩, rfl⟩ hos
      simp only [tt, seval, PB, Table.row_mk, lc]
      refine ⟨by kernel_rfl, ⟨by simp only [maxLen]; omega, by omega⟩, ?_⟩
      rw [tab_snoc tabs tn tc, tab_snocl tabs tn tc]
      have q1 := oT.1
      have q2 := ow.1
      refine ⟨[(18, .str (PB L x.2)), (7, .str [.s 47 ((tabs ++ [Table.mk tn tc])).length]), (47, .arr 83 ((tabs ++ [Table.mk tn tc])).length (((tabs ++ [Table.mk tn tc])).flatMap Table.row) none), (2, .str [.v (.slice none 0 0)])], none, SubO.cons rfl (SubO.cons rfl (SubO.cons rfl (SubO.cons rfl (SubO.nil _)))), PoSub.none _, ⟨x.2, acc ++ [x.1], tabs ++ [Table.mk tn tc], none, hxa, ?_, ?_, ?_, ?_, k1, fun e => (k2 e).2, rfl, rfl⟩, ?_⟩
      ·simp only [List.length_append, List.length_cons, List.length_nil]; omega
      ·intro e; have := (k2 e).1; simp only [List.length_append, List.length_cons, List.length_nil]; omega
      ·simp [htl]
      ·intro e; rw [List.map_append, ← hta hvb, ht e]; rfl
      ·simp only [PB, atB_mk, Int.toNat_natCast]
       first | rw [if_neg (show ¬ v.b = true by rw [hvb]; simp)] | (rw [ew]; rw [if_neg (show ¬ v.b = true by rw [hvb]; simp)])
       cases hxb : x.2.b with
       | true => rw [if_pos rfl]; omega
       | false => have := (k2 hxb).1; rw [if_neg (by simp)]; omega
   ·obtain ⟨n, hn, h1, h2⟩ := hmod hvb
    rw [rd_done (by omega)] at h1 h2
    have e1 : acc = tot.1 := by rw [← h1]; simp
    have e2 : v = tot.2 := h2
    have et := hta hvb
    rw [← e1, ← e2, ← et] at hz
    have hln := hal2 hvb
    have htl' : tabs.length ≤ 1048576 := by omega
    have htc : ∀ t ∈ tabs, t.cols.length ≤ 1048576 := fun t ht => by
     rw [et] at ht
     obtain ⟨y, hy, rfl⟩ := List.mem_map.1 ht
     rw [e1, htot] at hy
     have := rdCat_cols _ _ _ y hy
     simp only [cgTab, Table.cols, List.length_map]
     omega
    have cC := CatalogOk_d tabs htl' htc
    rw [Catalog.row_mk] at cC
    clear hmod hbad hta
    try simp only [tt, seval, hvb]
    refine callF [47] ?_
    simp only [tt, seval]
    refine Call1.intro cC ?_ ?_ ?_
    ·decide
    ·simp only [tt, seval]
    rintro r os rfl hos
    obtain rfl := List.eq_nil_of_length_eq_zero hos
    simp only [tt, seval]
    cases hck : catOk tabs with
    | false =>
     have hzn : z = none := by rw [hz, if_neg (fun h => by rw [hck] at h; cases h.2.1)]
     rw [hzn]
     try simp only [tt, seval, hck, Bool.not_false]
     refine ⟨.tu [(csOf (Catalog.mk []).row, false), ([.v (.bool false)], true)], [], rfl, endOk ?_⟩
     simp only [tt, seval, Catalog.row_mk, List.flatMap_nil, List.length_nil]
    | true =>
     obtain ⟨ht4, htk⟩ := catOk_tab hck
     have ht4' : ∀ t ∈ tabs, t.cols.length ≤ 4 := fun t ht => (htk t ht).1
     have cK := l16Tokens_d tabs ht4 ht4'
     have hKl := catT_len ht4 ht4'
     rw [Catalog.row_mk] at cK
     try simp only [tt, seval, hck, Bool.not_true]
     refine cZ (cK) (by decide) ?_ ?_ <;> simp only [tt, seval]
     refine cZ (SameTokens_d (catT tabs) L (by omega) hL) (by decide) ?_ ?_ <;> simp only [tt, seval]
     cases hsm : sameT (catT tabs) L with
     | false =>
      have hzn : z = none := by rw [hz, if_neg (fun h => by rw [hsm] at h; cases h.2.2)]
      rw [hzn]
      try simp only [tt, seval, hsm, Bool.not_false]
      refine ⟨.tu [(csOf (Catalog.mk []).row, false), ([.v (.bool false)], true)], [], rfl, endOk ?_⟩
      simp only [tt, seval, Catalog.row_mk, List.flatMap_nil, List.length_nil]
     | true =>
      have hzs : z = some tabs := by rw [hz, if_pos ⟨hvb, hck, hsm⟩]
      rw [hzs]
      try simp only [tt, seval, hsm, Bool.not_true]
      refine ⟨.tu [(csOf (Catalog.mk tabs).row, false), ([.v (.bool true)], true)], [], rfl, endOk ?_⟩
      simp only [tt, seval, Catalog.row_mk]
end Go.Proofs.YtijldlppojdehaaGreatDoor
set_option maxRecDepth 8000
namespace Go.Proofs.YtijldlppojdehaaGreatDoor
open Go Go.Dv Go.Cv
open Go.Vc (D shrI xorI andI and255)
def rcT (F : List (List Nat)) : Option (List Table) → S
 | some t => .tu [(told (Catalog.mk t).row [F], false), ([.v (.bool true)], true)]
 | none => .tu [(told (Catalog.mk []).row [F], false), ([.v (.bool false)], true)]
theorem IndexW_d (w : ByteArray) : Cl Tryz.prog 56 [.c (.sl 4 [str ⟨#[]⟩, str wINT, str wTEXT, str wBOOL] none), vs w] [] fun r _ => r = vi (cgI w) := by
 have := IndexT_d wordL w (by decide)
 rw [plO_words] at this
 exact this
set_option maxHeartbeats 8000000 in
theorem iReadCatalog_d (s : ByteArray) : Cl Tryz.prog 25 [vs s] [] fun r _ => ∃ F, r = rcT F (catD cgI s) := by
 have cl := iLex_d s
 refine cl_of_d follows_mixed true Tryz.func25 rfl (by kernel_rfl) ?_
 simp only [Tryz.f25, tt, seval]
 cases hlx : lexR s with
 | inr p =>
  rw [hlx] at cl
  rw [show catD cgI s = none by rw [catD, hlx]]
  have h0 : (0 ≤ (p : Int)) = True := eq_true (by omega)
  refine cZ (cl) (by decide) ?_ ?_ <;> simp (maxSteps := 10000000) only [tt, seval, lexV]
  simp (maxSteps := 10000000) only [tt, seval, h0, true_implies, not_true_eq_false, false_implies, and_true]
  refine ⟨.tu [(told (Catalog.mk []).row [[]], false), ([.v (.bool false)], true)], [], ⟨[], rfl⟩, endOk ?_⟩
  simp (maxSteps := 10000000) only [tt, seval, Catalog.row_mk, List.flatMap_nil, List.length_nil, told]
  first | done | exact Sb.refl _ | (exact Sb.nil _)
 | inl L =>
  rw [hlx] at cl
  rw [show catD cgI s = catR L cgI by rw [catD, hlx]]
  obtain ⟨hL2, hok⟩ := lex_toks hlx
  have hT40 := tok_text hok
  have hL : L.length ≤ 1048576 := by omega
  have hT : ∀ t ∈ L, t.text.size ≤ 1048576 := fun t ht => by have := hT40 t ht; omega
  obtain ⟨z, hz⟩ : ∃ z, z = catR L cgI := ⟨_, rfl⟩
  rw [← hz]
  obtain ⟨tot, htot⟩ : ∃ tot, tot = rdAll L := ⟨_, rfl⟩
  rw [catR, ← htot] at hz
  refine cZ (cl) (by decide) ?_ ?_ <;> simp (maxSteps := 10000000) only [tt, seval, lexV]
  try simp (maxSteps := 10000000) only [tt, seval, not_false_eq_true, true_implies, false_implies, true_and]
  refine dLoop.gh [.virtC 6 0 72 83] ⟨by decide, ?_⟩
  refine dLoop0.intro (fun f' Lo p => ∃ (v : PS) (acc : List (ByteArray × List (ByteArray × ByteArray))) (tabs : List Table) (Ft Pl : List (List Nat)), f' 8 = vi acc.length ∧ v.a ≤ L.length ∧ acc.length ≤ v.a + 1 ∧ (v.b = false → acc.length ≤ v.a) ∧ tabs = acc.map (cgTab cgI) ∧ (v.b = true → v = tot.2) ∧ (v.b = false → ∃ n, L.length - v.a < n ∧ acc ++ (rdCat L n acc.length v).1 = tot.1 ∧ (rdCat L n acc.length v).2 = tot.2) ∧ Sb Ft.flatten Pl.flatten ∧ Lo = [(23, .str (PB L v)), (6, .str [.s 72 (tabs).length]), (72, .arr 83 (tabs).length ((tabs).flatMap Table.row) (some Ft)), (2, .str [.v (.slice none 0 0)])] ∧ p = some Pl) (fun _ Lo _ => atB 23 L.length Lo) [(23, .str (PB L (⟨0, false⟩ : PS))), (6, .str [.s 72 (([] : List Table)).length]), (72, .arr 83 (([] : List Table)).length ((([] : List Table)).flatMap Table.row) (some [])), (2, .str [.v (.slice none 0 0)])] (some []) ⟨SubO.cons rfl (SubO.cons rfl (SubO.cons rfl (SubO.cons rfl (SubO.nil _)))), PoSub.refl _, ?_⟩ ?_
  ·simp (maxSteps := 10000000) only [tt, seval]
   exact ⟨⟨0, false⟩, [], [], [], [], rfl, Nat.zero_le _, Nat.zero_le _, fun _ => Nat.zero_le _, rfl, (fun e => by cases e), fun _ => ⟨L.length + 1, by omega, by rw [htot]; rfl, by rw [htot]; rfl⟩, Sb.refl _, rfl, rfl⟩
  rintro g' Lo p ⟨v, acc, tabs, Ft, Pl, ix, hv, hal, hal2, hta, hbad, hmod, hsb, rfl, rfl⟩
  simp (maxSteps := 10000000) only [tt, seval] at ix
  simp (maxSteps := 10000000) only [tt, seval, PB, ix]
  cases hvb : v.b with
  | true =>
   have hb2 := hbad hvb
   have hzn : z = none := by rw [hz, if_neg (fun h => by rw [← hb2, hvb] at h; cases h.1)]
   rw [hzn]
   try simp (maxSteps := 10000000) only [tt, seval, hvb, ix]
   refine ⟨.tu [(told (Catalog.mk []).row [[]], false), ([.v (.bool false)], true)], [], ⟨[], rfl⟩, endOk ?_⟩
   simp (maxSteps := 10000000) only [tt, seval, Catalog.row_mk, List.flatMap_nil, List.length_nil, told]
   first | done | exact Sb.refl _ | (exact Sb.nil _)
  | false =>
   try simp (maxSteps := 10000000) only [tt, seval, hvb, ix]
   refine fun _ => And.intro (fun hlt => ?_) (fun hge => ?_)
   ·have hvlt : v.a < L.length := by omega
    obtain ⟨n, hn, h1, h2⟩ := hmod hvb
    have hal2' := hal2 hvb
    obtain ⟨k1, k2⟩ := rd_round hvb hvlt hn rfl h1 h2
    have ow := comS_ok (L := L) acc.length v
    have hwa := ow.2.1 hv
    obtain ⟨w, hw⟩ : ∃ w, w = comS L acc.length v := ⟨_, rfl⟩
    rw [← hw] at k1 k2 ow hwa
    refine And.intro (fun hc => ?_) (fun hc => ?_)
    case' refine_1 =>
     have ew : w = must (isSg L v 44) v := by rw [hw, comS, if_pos (by omega)]
     try simp (maxSteps := 10000000) only [tt, seval, ix]
     rw [show [C.sl L.length (L.flatMap Tok.row) none, .v (.int .i64 v.a), .v (.bool false)] = PB L v by rw [PB, hvb]]
     refine cS (pmustSign_d L hL hT v 44 hv) (by decide) ?_ ?_ <;> simp (maxSteps := 10000000) only [tt, seval, PB, ix]
     rw [← ew]
    case' refine_2 =>
     have ew : w = v := by rw [hw, comS, if_neg (by omega)]
     try simp (maxSteps := 10000000) only [tt, seval, ix]
     rw [show [C.sl L.length (L.flatMap Tok.row) none, .v (.int .i64 v.a), .v (.bool false)] = PB L w by rw [ew, PB, hvb]]
    all_goals
     have o1 := Ok.mText (L := L) 2 w
     have ha1 := o1.2.1 hwa
     have hr : rdTab L w = (((mText L 2 w).1, (rdCols L (L.length + 1) (must (isSg L (mText L 2 w).2 40) (mText L 2 w).2)).1), must (isSg L (rdCols L (L.length + 1) (must (isSg L (mText L 2 w).2 40) (mText L 2 w).2)).2 41) (rdCols L (L.length + 1) (must (isSg L (mText L 2 w).2 40) (mText L 2 w).2)).2) := rfl
     rw [hr] at k1 k2
     clear hr
     refine cS (pmustKind_d L hL hT w 2 hwa) (by decide) ?_ ?_ <;> simp (maxSteps := 10000000) only [tt, seval, PB, ix]
     generalize (mText L 2 w).1 = nm at *
     generalize (mText L 2 w).2 = u0 at *
     refine cS (pmustSign_d L hL hT u0 40 ha1) (by decide) ?_ ?_ <;> simp (maxSteps := 10000000) only [tt, seval, PB, ix]
     have o2 : Ok L u0 (must (isSg L u0 40) u0) := Ok.must fun h => isSg_lt h
     have ha2 := o2.2.1 ha1
     generalize must (isSg L u0 40) u0 = wc at *
     have oc := rdCols_ok (L := L) (L.length + 1) wc
     obtain ⟨tc, htc⟩ : ∃ tc, tc = rdCols L (L.length + 1) wc := ⟨_, rfl⟩
     rw [← htc] at oc k1 k2
     refine dLoop.gh [.virtC 9 1 61 97] ⟨by decide, ?_⟩
     refine dLoop0.intro (fun f' Lo p => ∃ (y : PS) (cs : List (ByteArray × ByteArray)) (n : Nat), y.a ≤ L.length ∧ cs.length ≤ y.a ∧ L.length - y.a < n ∧ cs ++ (rdCols L n y).1 = tc.1 ∧ (rdCols L n y).2 = tc.2 ∧ Lo = [(23, .str (PB L y)), (9, .str [.v (.string nm), .s 61 ((cs.map (cgCol cgI))).length]), (61, .arr 97 ((cs.map (cgCol cgI))).length (((cs.map (cgCol cgI))).flatMap Col.row) (some [])), (6, .str [.s 72 tabs.length]), (72, .arr 83 tabs.length (tabs.flatMap Table.row) (some Ft)), (2, .str [.v (.slice none 0 0)])] ∧ p = some Pl) (fun _ Lo _ => atB 23 L.length Lo) [(23, .str (PB L wc)), (9, .str [.v (.string nm), .s 61 (([] : List Col)).length]), (61, .arr 97 (([] : List Col)).length ((([] : List Col)).flatMap Col.row) (some [])), (6, .str [.s 72 tabs.length]), (72, .arr 83 tabs.length (tabs.flatMap Table.row) (some Ft)), (2, .str [.v (.slice none 0 0)])] (some Pl) ⟨SubO.cons rfl (SubO.cons rfl (SubO.cons rfl (SubO.cons rfl (SubO.cons rfl (SubO.cons rfl (SubO.nil _)))))), PoSub.refl _, ?_⟩ ?_
     ·exact ⟨wc, [], L.length + 1, ha2, Nat.zero_le _, by omega, by rw [← htc]; rfl, by rw [← htc], rfl, rfl⟩
     rintro g2 Lo p ⟨y, cs, n, hy, hcl, hn2, h3, h4, rfl, rfl⟩
     simp (maxSteps := 10000000) only [tt, seval, PB, ix]
     cases n with
     | zero => omega
     | succ n =>
     rw [rdCols] at h3 h4
     have d1 := pmustKind_d L hL hT y 2 hy
     have p1 := Ok.mText (L := L) 2 y
     have hx1 := p1.2.1 hy
     have d2 := pmustKind_d L hL hT (mText L 2 y).2 2 hx1
     have p2 := Ok.mText (L := L) 2 (mText L 2 y).2
     have hx2 := p2.2.1 hx1
     have e1 : colP L y = (((mText L 2 y).1, (mText L 2 (mText L 2 y).2).1), (mText L 2 (mText L 2 y).2).2) := rfl
     rw [e1] at h3 h4
     generalize (mText L 2 y).1 = cn at *
     generalize (mText L 2 y).2 = y1 at *
     generalize (mText L 2 y1).1 = cw at *
     generalize (mText L 2 y1).2 = u at *
     have q1 := p1.1
     have q2 := p2.1
     refine cS (d1) (by decide) ?_ ?_ <;> simp (maxSteps := 10000000) only [tt, seval, PB, ix]
     refine cS (d2) (by decide) ?_ ?_ <;> simp (maxSteps := 10000000) only [tt, seval, PB, ix]
     refine cZ (IndexW_d cw) (by decide) ?_ ?_ <;> simp (maxSteps := 10000000) only [tt, seval, PB, wINT, wTEXT, wBOOL, ix]
     refine ⟨by kernel_rfl, ⟨by simp only [maxLen, List.length_map]; omega, by simp only [List.length_map]; omega⟩, ?_⟩
     rw [col_snoc cgI cs cn cw, col_snocl cgI cs cn cw]
     try simp (maxSteps := 10000000) only [tt, seval, PB]
     refine cS (ptakeSign_d L hL hT u 44 hx2) (by decide) ?_ ?_ <;> simp (maxSteps := 10000000) only [tt, seval, PB]
     cases c44 : isSg L u 44 with
     | true =>
      rw [if_pos c44] at h3 h4
      have hlt := isSg_lt c44
      try simp (maxSteps := 10000000) only [tt, seval, c44, Bool.not_true]
      rw [show tkIf true u = adv u from rfl]
      have hyb : y.b = false := p1.nb' (p2.nb' hlt.1)
      refine ⟨[(23, .str (PB L (adv u))), (9, .str [.v (.string nm), .s 61 (((cs ++ [(cn, cw)]).map (cgCol cgI))).length]), (61, .arr 97 (((cs ++ [(cn, cw)]).map (cgCol cgI))).length ((((cs ++ [(cn, cw)]).map (cgCol cgI))).flatMap Col.row) (some [])), (6, .str [.s 72 tabs.length]), (72, .arr 83 tabs.length (tabs.flatMap Table.row) (some Ft)), (2, .str [.v (.slice none 0 0)])], some Pl, SubO.cons rfl (SubO.cons rfl (SubO.cons rfl (SubO.cons rfl (SubO.cons rfl (SubO.cons rfl (SubO.nil _)))))), PoSub.refl _, ⟨adv u, cs ++ [(cn, cw)], n, adv_le hlt, ?_, ?_, by rw [← h3]; simp, h4, rfl, rfl⟩, ?_⟩
      ·have : (adv u).a = u.a + 1 := rfl
       rw [List.length_append]; simp only [List.length_cons, List.length_nil]; omega
      ·have : (adv u).a = u.a + 1 := rfl
       omega
      ·have e5 : (adv u).b = false := hlt.1
       have e6 : (adv u).a = u.a + 1 := rfl
       simp only [PB, atB_mk, Int.toNat_natCast, e5, hyb, e6, Bool.false_eq_true, if_false]
       omega
     | false =>
      rw [if_neg (by rw [c44]; simp)] at h3 h4
      try simp (maxSteps := 10000000) only [tt, seval, c44, Bool.not_false]
      rw [show tkIf false u = u from rfl]
      have h4' : u = tc.2 := h4
      have h3' : cs ++ [(cn, cw)] = tc.1 := h3
      rw [← h4'] at oc k1 k2
      rw [← h3'] at k1 k2
      refine cS (pmustSign_d L hL hT u 41 hx2) (by decide) ?_ ?_ <;> simp (maxSteps := 10000000) only [tt, seval, PB, ix]
      have o5 : Ok L u (must (isSg L u 41) u) := Ok.must fun h => isSg_lt h
      have oT : Ok L w (must (isSg L u 41) u) := o1.trans (o2.trans (oc.trans o5))
      have hxa := oT.2.1 hwa
      have r1 := oT.1
      have r2 := ow.1
      have htl : tabs.length = acc.length := by rw [hta, List.length_map]
      clear c44 h3 h4 h3' h4' hmod hbad
      try simp only at k1 k2
      generalize must (isSg L u 41) u = X at *
      generalize cs ++ [(cn, cw)] = cz at *
      refine fun G => ?_
      refine ⟨by kernel_rfl, ⟨by simp only [maxLen]; omega, by omega⟩, ?_⟩
      rw [tab_snoc tabs nm (cz.map (cgCol cgI)), tab_snocl tabs nm (cz.map (cgCol cgI))]
      try simp (maxSteps := 10000000) only [tt, seval, ix]
      rw [wrap_id (n := (acc.length : Int) + 1) (by omega) (by omega)]
      have hta2 : tabs ++ [Table.mk nm (cz.map (cgCol cgI))] = (acc ++ [(nm, cz)]).map (cgTab cgI) := by rw [List.map_append, ← hta]; rfl
      refine ⟨[(23, .str (PB L X)), (6, .str [.s 72 ((tabs ++ [Table.mk nm (cz.map (cgCol cgI))])).length]), (72, .arr 83 ((tabs ++ [Table.mk nm (cz.map (cgCol cgI))])).length (((tabs ++ [Table.mk nm (cz.map (cgCol cgI))])).flatMap Table.row) (some (Ft ++ [G]))), (2, .str [.v (.slice none 0 0)])], some (G :: Pl), SubO.cons rfl (SubO.cons rfl (SubO.cons rfl (SubO.cons rfl (SubO.nil _)))), PoSub.refl _, ⟨X, acc ++ [(nm, cz)], tabs ++ [Table.mk nm (cz.map (cgCol cgI))], Ft ++ [G], G :: Pl, by simp, hxa, ?_, ?_, hta2, k1, fun e => (k2 e).2, fun x => by have := hsb x; simp only [fb] at this ⊢; omega, rfl, rfl⟩, ?_⟩
      ·simp only [List.length_append, List.length_cons, List.length_nil]; omega
      ·intro e; have := (k2 e).1; simp only [List.length_append, List.length_cons, List.length_nil]; omega
      ·simp only [PB, atB_mk, Int.toNat_natCast]
       first | rw [if_neg (show ¬ v.b = true by rw [hvb]; simp)] | (rw [ew]; rw [if_neg (show ¬ v.b = true by rw [hvb]; simp)])
       cases hxb : X.b with
       | true => rw [if_pos rfl]; omega
       | false => have := (k2 hxb).1; rw [if_neg (by simp)]; omega
   ·obtain ⟨n, hn, h1, h2⟩ := hmod hvb
    rw [rd_done (by omega)] at h1 h2
    have e1 : acc = tot.1 := by rw [← h1]; simp
    have e2 : v = tot.2 := h2
    rw [← e1, ← e2, ← hta] at hz
    have hln := hal2 hvb
    have htl : tabs.length = acc.length := by rw [hta, List.length_map]
    have htl' : tabs.length ≤ 1048576 := by omega
    have htc : ∀ t ∈ tabs, t.cols.length ≤ 1048576 := fun t ht => by
     rw [hta] at ht
     obtain ⟨y, hy, rfl⟩ := List.mem_map.1 ht
     rw [e1, htot] at hy
     have := rdCat_cols _ _ _ y hy
     simp only [cgTab, Table.cols, List.length_map]
     omega
    have cC := iCatalogOk_d tabs htl' htc
    rw [Catalog.row_mk] at cC
    clear hmod hbad hta
    try simp (maxSteps := 10000000) only [tt, seval, hvb, ix]
    refine callF [72] ?_
    simp (maxSteps := 10000000) only [tt, seval]
    refine fun G => ?_
    refine Call1.intro cC ?_ ?_ ?_
    ·decide
    ·simp (maxSteps := 10000000) only [tt, seval]
    rintro r os rfl hos
    obtain rfl := List.eq_nil_of_length_eq_zero hos
    simp (maxSteps := 10000000) only [tt, seval]
    cases hck : catOk tabs with
    | false =>
     have hzn : z = none := by rw [hz, if_neg (fun h => by rw [hck] at h; cases h.2.1)]
     rw [hzn]
     try simp (maxSteps := 10000000) only [tt, seval, hck, Bool.not_false]
     refine ⟨.tu [(told (Catalog.mk []).row [[]], false), ([.v (.bool false)], true)], [], ⟨[], rfl⟩, endOk ?_⟩
     simp (maxSteps := 10000000) only [tt, seval, Catalog.row_mk, List.flatMap_nil, List.length_nil, told]
     first | done | exact Sb.refl _ | (exact Sb.nil _)
    | true =>
     obtain ⟨ht4, htk⟩ := catOk_tab hck
     have ht4' : ∀ t ∈ tabs, t.cols.length ≤ 4 := fun t ht => (htk t ht).1
     have cK := catalogTokens_d tabs ht4 ht4'
     have hKl := catT_len ht4 ht4'
     rw [Catalog.row_mk] at cK
     try simp (maxSteps := 10000000) only [tt, seval, hck, Bool.not_true]
     refine cZ (cK) (by decide) ?_ ?_ <;> simp (maxSteps := 10000000) only [tt, seval]
     refine cZ (iSameTokens_d (catT tabs) L (by omega) hL) (by decide) ?_ ?_ <;> simp (maxSteps := 10000000) only [tt, seval]
     cases hsm : sameT (catT tabs) L with
     | false =>
      have hzn : z = none := by rw [hz, if_neg (fun h => by rw [hsm] at h; cases h.2.2)]
      rw [hzn]
      try simp (maxSteps := 10000000) only [tt, seval, hsm, Bool.not_false]
      refine ⟨.tu [(told (Catalog.mk []).row [[]], false), ([.v (.bool false)], true)], [], ⟨[], rfl⟩, endOk ?_⟩
      simp (maxSteps := 10000000) only [tt, seval, Catalog.row_mk, List.flatMap_nil, List.length_nil, told]
      first | done | exact Sb.refl _ | (exact Sb.nil _)
     | true =>
      have hzs : z = some tabs := by rw [hz, if_pos ⟨hvb, hck, hsm⟩]
      rw [hzs]
      try simp (maxSteps := 10000000) only [tt, seval, hsm, Bool.not_true]
      refine ⟨.tu [(told (Catalog.mk tabs).row [G :: Ft], false), ([.v (.bool true)], true)], [], ⟨G :: Ft, rfl⟩, endOk ?_⟩
      simp (maxSteps := 10000000) only [tt, seval, Catalog.row_mk, told]
      first | done | exact (fun x => by have := hsb x; simp only [fb] at this ⊢; omega)
mutual
inductive VRow where
 | mk (l : List Val)
end
mutual
def VRow.row : VRow → List D
 | .mk l => .sl l.length (l.flatMap Val.row) :: []
end
theorem VRow.row_mk (l : List Val) : (VRow.mk l).row = .sl l.length (l.flatMap Val.row) :: [] := by rw [VRow.row]
theorem VRow.row_len (x : VRow) : x.row.length = 1 := by cases x; simp [VRow.row]
theorem VRow.tk (x : VRow) (r : List D) : takeD 1 (x.row ++ r) = some x.row := takeD_row (VRow.row_len x)
theorem VRow.ne (x : VRow) (r : List D) : x.row ++ r ≠ [] := fun h => by have := congrArg List.length h; simp [VRow.row_len] at this
mutual
inductive Data where
 | mk (rows : List VRow)
end
mutual
def Data.row : Data → List D
 | .mk rows => .sl rows.length (rows.flatMap VRow.row) :: []
end
theorem Data.row_mk (rows : List VRow) : (Data.mk rows).row = .sl rows.length (rows.flatMap VRow.row) :: [] := by rw [Data.row]
theorem Data.row_len (x : Data) : x.row.length = 1 := by cases x; simp [Data.row]
theorem Data.tk (x : Data) (r : List D) : takeD 1 (x.row ++ r) = some x.row := takeD_row (Data.row_len x)
theorem Data.ne (x : Data) (r : List D) : x.row ++ r ≠ [] := fun h => by have := congrArg List.length h; simp [Data.row_len] at this
mutual
inductive Db where
 | mk (tables : List Data)
end
mutual
def Db.row : Db → List D
 | .mk tables => .sl tables.length (tables.flatMap Data.row) :: []
end
theorem Db.row_mk (tables : List Data) : (Db.mk tables).row = .sl tables.length (tables.flatMap Data.row) :: [] := by rw [Db.row]
theorem Db.row_len (x : Db) : x.row.length = 1 := by cases x; simp [Db.row]
mutual
inductive Desk where
 | mk (cat : Catalog) (db : Db)
end
mutual
def Desk.row : Desk → List D
 | .mk cat db => (cat.row ++ (db.row ++ []))
end
theorem Desk.row_mk (cat : Catalog) (db : Db) : (Desk.mk cat db).row = (cat.row ++ (db.row ++ [])) := by rw [Desk.row]
theorem Desk.row_len (x : Desk) : x.row.length = 2 := by cases x; simp [Desk.row, Catalog.row_len, Db.row_len]
def zData : Data := .mk []
def eDb (n : Nat) : Db := .mk (List.replicate n zData)
theorem rep_snoc (n : Nat) : (List.replicate n zData).flatMap Data.row ++ [.sl 0 []] = (List.replicate (n + 1) zData).flatMap Data.row := by
 rw [List.replicate_succ', List.flatMap_append]; rfl
theorem rep_snocl (n : Nat) : (List.replicate n zData).length + 1 = (List.replicate (n + 1) zData).length := by simp
theorem rep_flat (n : Nat) : (List.replicate n [D.sl 0 []]).flatten = (List.replicate n zData).flatMap Data.row := by
 induction n with
 | zero => rfl
 | succ n ih => rw [List.replicate_succ, List.replicate_succ, List.flatten_cons, List.flatMap_cons, ih]; rfl
theorem EmptyDb_d (tables : List Table) (hl : tables.length ≤ 1048576) : Cl Tryz.prog 24 [.ag (csOf (Catalog.mk tables).row)] [] fun r _ => r = .ag (csOf (eDb tables.length).row) := by
 rw [Catalog.row_mk]
 refine cl_of_d follows_mixed false Tryz.func24 rfl (by kernel_rfl) ?_
 simp only [Tryz.f24, tt, seval]
 refine dLoop.gh [.virtC 3 0 17 89] ⟨by decide, ?_⟩
 refine dLoop0.intro (fun f L p => ∃ (i : Nat) (Fp : Fp), f 4 = vi i ∧ i ≤ tables.length ∧ L = [(1, .str [.sl tables.length (tables.flatMap Table.row) none]), (3, .str [.s 17 ((List.replicate i zData)).length]), (17, .arr 89 ((List.replicate i zData)).length (((List.replicate i zData)).flatMap Data.row) Fp), (2, .str [.v (.slice none 0 0)])] ∧ p = none) (fun f _ _ => (tables.length - ixS (f 4)).toNat) [(1, .str [.sl tables.length (tables.flatMap Table.row) none]), (3, .str [.s 17 (([] : List Data)).length]), (17, .arr 89 (([] : List Data)).length ((([] : List Data)).flatMap Data.row) (some [])), (2, .str [.v (.slice none 0 0)])] none ⟨SubO.cons rfl (SubO.cons rfl (SubO.cons rfl (SubO.cons rfl (SubO.nil _)))), PoSub.none _, ?_⟩ ?_
 ·simp only [tt, seval]
  exact ⟨0, some [], rfl, Nat.zero_le _, rfl⟩
 rintro g L p ⟨i, Fq, ix, hi, rfl, rfl⟩
 simp only [tt, seval] at ix
 simp only [tt, seval, ix, Int.ofNat_lt]
 refine fun _ => And.intro (fun hlt => ?_) (fun hge => ?_)
 ·have hlt : i < tables.length := by omega
  try simp only [tt, seval, ix]
  refine ⟨by kernel_rfl, ⟨by simp only [maxLen, List.length_replicate]; omega, by simp only [List.length_replicate]; omega⟩, ?_⟩
  rw [rep_snoc, rep_snocl, wrap_id (n := (i : Int) + 1) (by omega) (by omega)]
  exact ⟨[(1, .str [.sl tables.length (tables.flatMap Table.row) none]), (3, .str [.s 17 ((List.replicate (i + 1) zData)).length]), (17, .arr 89 ((List.replicate (i + 1) zData)).length (((List.replicate (i + 1) zData)).flatMap Data.row) none), (2, .str [.v (.slice none 0 0)])], none, SubO.cons rfl (SubO.cons rfl (SubO.cons rfl (SubO.cons rfl (SubO.nil _)))), PoSub.none _, ⟨i + 1, none, rfl, by omega, rfl, rfl⟩, by simp only [ixS]; omega⟩
 ·have hie : i = tables.length := by omega
  subst hie
  try simp only [tt, seval, ix]
  refine ⟨.ag (csOf (eDb tables.length).row), [], rfl, endOk ?_⟩
  simp only [tt, seval, eDb, Db.row_mk]
theorem iEmptyDb_d (tables : List Table) (hl : tables.length ≤ 1048576) : Cl Tryz.prog 26 [.ag (csOf (Catalog.mk tables).row)] [] fun r _ => ∃ F, r = .ag (told (eDb tables.length).row [F]) := by
 rw [Catalog.row_mk]
 refine cl_of_d follows_mixed true Tryz.func26 rfl (by kernel_rfl) ?_
 simp only [Tryz.f26, tt, seval]
 refine fun _ => ⟨by omega, by omega, by omega, fun G => ⟨.ag (told (eDb tables.length).row [[G]]), [], ⟨[G], rfl⟩, endOk ?_⟩⟩
 rw [rep_flat]
 simp only [tt, seval, eDb, Db.row_mk, told, List.length_replicate]
 first | done | exact Sb.refl _
def deskV : Option (List Table) → Desk × Bool
 | some t => (.mk (.mk t) (eDb t.length), true)
 | none => (.mk (.mk []) (.mk []), false)
theorem catD_le {f : ByteArray → Int} {s : ByteArray} {t : List Table} (h : catD f s = some t) : t.length ≤ 4 := by
 unfold catD at h
 split at h
 ·unfold catR at h
  split at h
  ·rename_i hc
   injection h with h
   rw [← h]
   exact (catOk_tab hc.2.1).1
  ·cases h
 ·cases h
theorem catD_eq (s : ByteArray) : catD cgI s = catD cgS s := by
 unfold catD
 split
 ·exact (catR_eq _).symm
 ·rfl
def deS (x : Desk × Bool) : S := .tu [(csOf x.1.row, false), ([.v (.bool x.2)], true)]
set_option maxHeartbeats 1000000 in
theorem DeskNew_d (s : ByteArray) : Cl Tryz.prog 6 [vs s] [] fun r _ => r = deS (deskV (catD cgS s)) := by
 have c1 := ReadCatalog_d s
 cases hc : catD cgS s with
 | none =>
  rw [hc] at c1
  simp only [rcS, Catalog.row_mk, List.flatMap_nil, List.length_nil] at c1
  refine cl_of_d follows_mixed false Tryz.func6 rfl (by kernel_rfl) ?_
  simp only [Tryz.f6, tt, seval]
  refine cZ (c1) (by decide) ?_ ?_ <;> simp only [tt, seval]
  try simp only [tt, seval]
  refine ⟨.tu [(csOf (Desk.mk (.mk []) (.mk [])).row, false), ([.v (.bool false)], true)], [], rfl, endOk ?_⟩
  simp only [tt, seval, Desk.row_mk, Catalog.row_mk, Db.row_mk, List.flatMap_nil, List.length_nil, lc]
 | some tb =>
  have hl := catD_le hc
  rw [hc] at c1
  have c2 := EmptyDb_d tb (by omega)
  simp only [rcS, Catalog.row_mk, eDb, Db.row_mk] at c1 c2
  refine cl_of_d follows_mixed false Tryz.func6 rfl (by kernel_rfl) ?_
  simp only [Tryz.f6, tt, seval]
  refine cZ (c1) (by decide) ?_ ?_ <;> simp only [tt, seval]
  try simp only [tt, seval]
  refine dDrawn.intro [] (pln [0, 2, 5, 6, 9, 10]) (by kernel_rfl) ?_
  simp only [tt, seval]
  refine cZ (c2) (by decide) ?_ ?_ <;> simp only [tt, seval]
  refine ⟨deS (deskV (some tb)), [], rfl, endOk ?_⟩
  simp only [tt, seval, deS, deskV, eDb, Desk.row_mk, Catalog.row_mk, Db.row_mk, lc]
set_option maxHeartbeats 1000000 in
theorem iDeskNew_d (s : ByteArray) : Cl Tryz.prog 7 [vs s] [] fun r _ => ∃ F0 F1, r = .tu [(told (deskV (catD cgS s)).1.row [F0, F1], false), ([.v (.bool (deskV (catD cgS s)).2)], true)] := by
 have c1 := iReadCatalog_d s
 rw [catD_eq] at c1
 cases hc : catD cgS s with
 | none =>
  rw [hc] at c1
  simp only [rcT, Catalog.row_mk, List.flatMap_nil, List.length_nil, told] at c1
  refine cl_of_d follows_mixed true Tryz.func7 rfl (by kernel_rfl) ?_
  simp only [Tryz.f7, tt, seval]
  refine call0 (c1) ?_ ?_ ?_
  ·decide
  ·simp only [tt, seval]
  rintro r ⟨F, rfl⟩
  simp only [tt, seval]
  try simp only [tt, seval]
  refine ⟨.tu [(told (Desk.mk (.mk []) (.mk [])).row [[], []], false), ([.v (.bool false)], true)], [], ⟨[], [], rfl⟩, endOk ?_⟩
  simp only [tt, seval, Desk.row_mk, Catalog.row_mk, Db.row_mk, List.flatMap_nil, List.length_nil, lc, told]
  first | done | exact Sb.refl _ | ((try refine ⟨by omega, ?_⟩); exact pool_ok fun x => by (try simp only [fb]); omega)
 | some tb =>
  have hl := catD_le hc
  rw [hc] at c1
  have c2 := iEmptyDb_d tb (by omega)
  simp only [rcT, Catalog.row_mk, eDb, Db.row_mk, told] at c1 c2
  refine cl_of_d follows_mixed true Tryz.func7 rfl (by kernel_rfl) ?_
  simp only [Tryz.f7, tt, seval]
  refine call0 (c1) ?_ ?_ ?_
  ·decide
  ·simp only [tt, seval]
  rintro r ⟨F, rfl⟩
  simp only [tt, seval]
  try simp only [tt, seval]
  refine dDrawn.intro [] (pln [0, 2, 5, 6, 9, 10]) (by kernel_rfl) ?_
  simp only [tt, seval]
  refine call0 (c2) ?_ ?_ ?_
  ·decide
  ·simp only [tt, seval]
  rintro r ⟨F2, rfl⟩
  simp only [tt, seval]
  refine ⟨.tu [(told (Desk.mk (.mk tb) (eDb tb.length)).row [F, F2], false), ([.v (.bool true)], true)], [], ⟨F, F2, rfl⟩, endOk ?_⟩
  simp only [tt, seval, eDb, Desk.row_mk, Catalog.row_mk, Db.row_mk, lc, told]
  first | done | exact Sb.refl _ | ((try refine ⟨by omega, ?_⟩); exact pool_ok fun x => by (try simp only [fb]); omega)
end Go.Proofs.YtijldlppojdehaaGreatDoor
