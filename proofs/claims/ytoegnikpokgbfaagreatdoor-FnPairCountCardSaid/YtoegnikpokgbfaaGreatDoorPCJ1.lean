/-
  The reference's printer.
  Conditions: none.
-/
import Derived.Test.YtoegnikpokgbfaaGreatDoorPCF2
set_option linter.unusedVariables false
set_option linter.unusedSimpArgs false
set_option linter.unusedSectionVars false
set_option linter.unnecessarySimpa false
set_option maxRecDepth 8000
namespace Go.Proofs.YtoegnikpokgbfaaGreatDoor
open Go Go.Dv
open Go.Vc (D shrI xorI andI and255)
theorem tok1 (l : List Tok) (k : Int) (s : ByteArray) (a : Int) : l.flatMap Tok.row ++ [int k, str s, int a] = (l ++ [Tok.mk k s a]).flatMap Tok.row := by rw [List.flatMap_append]; rfl
theorem tok2 (l : List Tok) (k : Int) (s : ByteArray) (a : Int) (k' : Int) (s' : ByteArray) (a' : Int) : l.flatMap Tok.row ++ [int k, str s, int a, int k', str s', int a'] = (l ++ [Tok.mk k s a, Tok.mk k' s' a']).flatMap Tok.row := by rw [List.flatMap_append]; rfl
theorem len1 (l : List Tok) (t : Tok) : l.length + 1 = (l ++ [t]).length := by simp
theorem len2 (l : List Tok) (t u : Tok) : l.length + 2 = (l ++ [t, u]).length := by simp
theorem owE {l m : List Tok} (h : l = m) : (S.c (.ow 61 (l).length ((l).flatMap Tok.row) none) : S) = .c (.ow 61 (m).length ((m).flatMap Tok.row) none) := by rw [h]
theorem osE {l m : List Tok} {x : C} (h : l = m) : ([[.ow 61 (l).length ((l).flatMap Tok.row) none, x]] : List (List C)) = [[.ow 61 (m).length ((m).flatMap Tok.row) none, x]] := by rw [h]
theorem agE {a b : Tok} (h : a = b) : (S.ag (csOf a.row) : S) = .ag (csOf b.row) := by rw [h]
theorem l10Key_d (k : Nat) (h1 : 1 ≤ k) (h2 : k ≤ 28) : Cl Tryz.prog 94 [vi k] [] fun r _ => r = .ag (csOf (kT k).row) := by
 refine cl_of_d follows_mixed false Tryz.func94 rfl (by kernel_rfl) ?_
 simp only [Tryz.f94, tt, seval]
 refine cZ (KeyText_d k h1 h2) (by decide) ?_ ?_ <;> simp only [tt, seval]
 exact ⟨_, _, rfl, end0 rfl⟩
theorem l10Sign_d (s : ByteArray) : Cl Tryz.prog 90 [vs s] [] fun r _ => r = .ag (csOf (gT s).row) := by
 refine cl_of_d follows_mixed false Tryz.func90 rfl (by kernel_rfl) ?_
 simp only [Tryz.f90, tt, seval]
 exact ⟨_, _, rfl, end0 rfl⟩
theorem l10Name_d (s : ByteArray) : Cl Tryz.prog 89 [vs s] [] fun r _ => r = .ag (csOf (nT s).row) := by
 refine cl_of_d follows_mixed false Tryz.func89 rfl (by kernel_rfl) ?_
 simp only [Tryz.f89, tt, seval]
 exact ⟨_, _, rfl, end0 rfl⟩
theorem l10Op_d (op : Int) : Cl Tryz.prog 92 [vi op] [] fun r _ => r = .ag (csOf (opTk op).row) := by
 refine cl_of_d follows_mixed false Tryz.func92 rfl (by kernel_rfl) ?_
 simp only [Tryz.f92, tt, seval]
 by_cases h1 : op = 1
 ·simp only [tt, seval, decide_eq_true h1]
  refine cZ (OpText_d op) (by decide) ?_ ?_ <;> simp only [tt, seval]
  exact ⟨_, _, agE (by rw [opTk, if_pos (.inl h1)]), end0 rfl⟩
 simp only [tt, seval, decide_eq_false h1]
 by_cases h2 : op = 2
 ·simp only [tt, seval, decide_eq_true h2]
  refine cZ (OpText_d op) (by decide) ?_ ?_ <;> simp only [tt, seval]
  exact ⟨_, _, agE (by rw [opTk, if_pos (.inr (.inl h2))]), end0 rfl⟩
 simp only [tt, seval, decide_eq_false h2]
 refine And.intro (fun h3 => ?_) (fun h3 => ?_)
 ·skip
  refine cZ (OpText_d op) (by decide) ?_ ?_ <;> simp only [tt, seval]
  exact ⟨_, _, agE (by rw [opTk, if_pos (.inr (.inr h3))]), end0 rfl⟩
 refine cZ (OpText_d op) (by decide) ?_ ?_ <;> simp only [tt, seval]
 refine cZ (l10Sign_d (opT op)) (by decide) ?_ ?_ <;> simp only [tt, seval, gT, Tok.row]
 exact ⟨_, _, agE (by rw [opTk, if_neg (fun h => h.elim h1 fun h => h.elim h2 h3)]), end0 rfl⟩
theorem l10Lit_d (v : Val) (h0 : -9223372036854775808 ≤ v.num) (h1 : v.num ≤ 9223372036854775807) : Cl Tryz.prog 88 [.ag (csOf v.row)] [] fun r _ => r = .ag (csOf (litT v).row) := by
 rw [Val.row]
 refine cl_of_d follows_mixed false Tryz.func88 rfl (by kernel_rfl) ?_
 simp only [Tryz.f88, tt, seval]
 refine And.intro (fun k1 => ?_) (fun k1 => ?_)
 ·skip
  refine cZ (Digits_d v.num h0 h1) (by decide) ?_ ?_ <;> simp only [tt, seval]
  exact ⟨_, _, agE (by rw [litT, if_pos k1]), end0 rfl⟩
 refine And.intro (fun k2 => ?_) (fun k2 => ?_)
 ·exact ⟨_, _, agE (by rw [litT, if_neg k1, if_pos k2]), end0 rfl⟩
 refine And.intro (fun k3 => ?_) (fun k3 => ?_)
 ·refine And.intro (fun k4 => ?_) (fun k4 => ?_)
  ·skip
   refine cZ (l10Key_d 21 (by omega) (by omega)) (by decide) ?_ ?_ <;> simp only [tt, seval, kT, Tok.row]
   exact ⟨_, _, agE (by rw [litT, if_neg k1, if_neg k2, if_pos k3, if_pos k4]), end0 rfl⟩
  ·skip
   refine cZ (l10Key_d 22 (by omega) (by omega)) (by decide) ?_ ?_ <;> simp only [tt, seval, kT, Tok.row]
   exact ⟨_, _, agE (by rw [litT, if_neg k1, if_neg k2, if_pos k3, if_neg k4]), end0 rfl⟩
 refine cZ (l10Key_d 20 (by omega) (by omega)) (by decide) ?_ ?_ <;> simp only [tt, seval, kT, Tok.row]
 exact ⟨_, _, agE (by rw [litT, if_neg k1, if_neg k2, if_neg k3]), end0 rfl⟩
theorem l10Not_d (out : List Tok) (e : Expr) (h : out.length ≤ 1000000) : Cl Tryz.prog 95 [.c (.ow 61 (out).length ((out).flatMap Tok.row) none), .ag (csOf e.row)] [] fun r _ => r = .c (.ow 61 (out ++ notL e.not).length ((out ++ notL e.not).flatMap Tok.row) none) := by
 obtain ⟨kind, op, not, val, qual, name, kids, sub⟩ := e
 rw [Expr.row_mk]
 refine cl_of_d follows_mixed false Tryz.func95 rfl (by kernel_rfl) ?_
 simp only [Tryz.f95, tt, seval]
 cases not
 case true =>
  simp only [tt, seval]
  refine cZ (l10Key_d 15 (by omega) (by omega)) (by decide) ?_ ?_ <;> simp only [tt, seval, kT, Tok.row]
  refine ⟨by kernel_rfl, ⟨by simp only [maxLen]; (try simp only [ll] at *); omega, by (try simp only [ll] at *); omega⟩, ?_⟩
  rw [tok1 (out), len1 (out) (Tok.mk 1 (kw 15) 0)]
  refine ⟨_, [], owE (l := out ++ [(Tok.mk 1 (kw 15) 0)]) (by rfl), endOk ?_⟩
  simp only [tt, seval]
 case false =>
  simp only [tt, seval]
  refine ⟨_, [], owE (l := out) (by exact (List.append_nil _).symm), endOk ?_⟩
  simp only [tt, seval]
theorem l10As_d (out : List Tok) (a : ByteArray) (h : out.length ≤ 1000000) : Cl Tryz.prog 211 [.c (.ow 61 (out).length ((out).flatMap Tok.row) none), vs a] [] fun r _ => r = .c (.ow 61 (out ++ asL a).length ((out ++ asL a).flatMap Tok.row) none) := by
 refine cl_of_d follows_mixed false Tryz.func211 rfl (by kernel_rfl) ?_
 simp only [Tryz.f211, tt, seval]
 refine And.intro (fun ha => ?_) (fun ha => ?_)
 ·skip
  refine ⟨_, [], owE (l := out) (by rw [asL, if_pos ha, List.append_nil]), endOk ?_⟩
  simp only [tt, seval]
 ·try simp only [tt, seval]
  refine cZ (l10Key_d 12 (by omega) (by omega)) (by decide) ?_ ?_ <;> simp only [tt, seval, kT, Tok.row]
  refine cZ (l10Name_d a) (by decide) ?_ ?_ <;> simp only [tt, seval, nT, Tok.row]
  refine ⟨by kernel_rfl, ⟨by simp only [maxLen]; (try simp only [ll] at *); omega, by (try simp only [ll] at *); omega⟩, ?_⟩
  rw [tok2 (out), len2 (out) (Tok.mk 1 (kw 12) 0) (Tok.mk 2 a 0)]
  refine ⟨_, [], owE (l := out ++ [(Tok.mk 1 (kw 12) 0), (Tok.mk 2 a 0)]) (by rw [asL, if_neg ha]; rfl), endOk ?_⟩
  simp only [tt, seval]
def TkC (full : Bool) (e : Expr) (l : List Tok) : Prop := ∀ out : List Tok, out.length + l.length ≤ 1000000 → Cl Tryz.prog 37 [.c (.ow 61 (out).length ((out).flatMap Tok.row) none), .ag (csOf e.row), vb full] [] fun r _ => r = .c (.ow 61 (out ++ l).length ((out ++ l).flatMap Tok.row) none)
set_option maxHeartbeats 1000000 in
theorem l10Kid_d (kind op : Int) (not : Bool) (val : Val) (qual name : ByteArray) (kids : List Expr) (sub : List Query) (full : Bool) (k : Nat) (hk : k < kids.length) (l : List Tok) (hx : TkC full kids[k] l) (out : List Tok) (hroom : out.length + (parL (wrF full kind op kids k) l).length ≤ 1000000) :
 Cl Tryz.prog 91 [.c (.ow 61 (out).length ((out).flatMap Tok.row) none), .ag (csOf (Expr.mk kind op not val qual name kids sub).row), vi k, vb full] [] fun r _ => r = .c (.ow 61 (out ++ parL (wrF full kind op kids k) l).length ((out ++ parL (wrF full kind op kids k) l).flatMap Tok.row) none) := by
 obtain ⟨it, hit⟩ : ∃ it, it = kids[k] := ⟨_, rfl⟩
 have hw : (wrF full kind op kids k) = (wrapB kind op kids k || (full && decide (lvE it < 9))) := by rw [wrF, List.getD_eq_getElem?_getD, List.getElem?_eq_getElem hk, hit]; rfl
 rw [hw] at hroom ⊢
 rw [← hit] at hx
 rw [Expr.row_mk]
 refine cl_of_d follows_mixed false Tryz.func91 rfl (by kernel_rfl) ?_
 simp only [Tryz.f91, tt, seval]
 refine ⟨by omega, by omega, _, drop_row Expr.row_len (List.getElem?_eq_getElem hk), Expr.ne _ _, ?_⟩
 rw [← hit]
 have hxl := LevelOf_d it
 obtain ⟨k0, o0, n0, v0, q0, m0, ks0, ss0⟩ := it
 rw [Expr.row_mk] at hxl
 rw [Expr.row_mk]
 simp only [tt, seval]
 refine cZ (Wrapped_d kind op not val qual name kids sub k hk) (by decide) ?_ ?_ <;> simp only [tt, seval, Expr.row_mk]
 have hx : ∀ out : List Tok, out.length + l.length ≤ 1000000 → Cl Tryz.prog 37 [.c (.ow 61 (out).length ((out).flatMap Tok.row) none), .ag (csOf (Expr.mk k0 o0 n0 v0 q0 m0 ks0 ss0).row), vb full] [] fun r _ => r = .c (.ow 61 (out ++ l).length ((out ++ l).flatMap Tok.row) none) := hx
 rw [Expr.row_mk] at hx
 generalize lvE (Expr.mk k0 o0 n0 v0 q0 m0 ks0 ss0) = lv0 at *
 cases hw1 : wrapB kind op kids k
 case true =>
  rw [hw1] at hroom
  simp only [tt, seval]
  have hroom : out.length + (lpT :: (l ++ [rpT])).length ≤ 1000000 := hroom
  simp only [ll] at hroom
  apply dDrawn_j1 0
  case h1 =>
   refine dDrawn.intro [32] (.take 0 (.take 5 (.br 1 (.br 2 (.br 3 (.take 4 (.br 6 (.take 7 .done) .nobr)) (.br 4 (.br 3 (.br 6 (.take 7 .done) .nobr) .nobr) .nobr)) (.br 4 (.br 2 (.br 3 (.br 6 (.take 7 .done) .nobr) .nobr) .nobr) .nobr)) (.br 4 (.br 1 (.br 2 (.br 3 (.br 6 (.take 7 .done) .nobr) .nobr) .nobr) .nobr) .nobr)))) (by kernel_rfl) ?_
   simp only [tt, seval]
   all_goals repeat' first | refine brC ?_ ?_ | refine brC2 ?_ ?_
   all_goals
    refine cZ (l10Sign_d ⟨#[40]⟩) (by decide) ?_ ?_ <;> simp only [tt, seval, gT, Tok.row]
   all_goals repeat' first | refine brA ?_ ?_ | refine brA2 ?_ ?_ | refine brA3 ?_ ?_
   all_goals
    refine ⟨by kernel_rfl, ⟨by simp only [maxLen]; (try simp only [ll] at *); omega, by (try simp only [ll] at *); omega⟩, ?_⟩
    rw [tok1 (out), len1 (out) (Tok.mk 5 ⟨#[40]⟩ 0)]
   all_goals repeat' first | refine brC ?_ ?_ | refine brC2 ?_ ?_
   all_goals
    refine cZ (hx (out ++ [(Tok.mk 5 ⟨#[40]⟩ 0)]) (by (try simp only [ll] at *); omega)) (by decide) ?_ ?_
    ·simp only [tt, seval]
     decide
    simp only [tt, seval]
   all_goals exact ⟨rfl, rfl, rfl⟩
  case h2 =>
   intro f' hj0
   simp only [tt, seval, hj0]
   refine cZ (l10Sign_d ⟨#[41]⟩) (by decide) ?_ ?_ <;> simp only [tt, seval, gT, Tok.row]
   refine ⟨by kernel_rfl, ⟨by simp only [maxLen]; (try simp only [ll] at *); omega, by (try simp only [ll] at *); omega⟩, ?_⟩
   rw [tok1 (out ++ [(Tok.mk 5 ⟨#[40]⟩ 0)] ++ l), len1 (out ++ [(Tok.mk 5 ⟨#[40]⟩ 0)] ++ l) (Tok.mk 5 ⟨#[41]⟩ 0)]
   refine ⟨_, [], owE (l := out ++ [(Tok.mk 5 ⟨#[40]⟩ 0)] ++ l ++ [(Tok.mk 5 ⟨#[41]⟩ 0)]) (by skip; simp [parL, lpT, rpT, gT]), endOk ?_⟩
   simp only [tt, seval]
 case false =>
  simp only [tt, seval]
  cases full
  case false =>
   rw [hw1] at hroom
   simp only [tt, seval]
   have hroom : out.length + l.length ≤ 1000000 := hroom
   refine cZ (hx out hroom) (by decide) ?_ ?_ <;> simp only [tt, seval]
   refine ⟨_, [], owE (l := out ++ l) (by skip; simp [parL]), endOk ?_⟩
   simp only [tt, seval]
  case true =>
   simp only [tt, seval]
   refine cZ (hxl) (by decide) ?_ ?_ <;> simp only [tt, seval]
   rw [hw1] at hroom
   refine And.intro (fun h9 => ?_) (fun h9 => ?_)
   ·rw [decide_eq_true h9] at hroom ⊢
    have hroom : out.length + (lpT :: (l ++ [rpT])).length ≤ 1000000 := hroom
    simp only [ll] at hroom
    apply dDrawn_j1 0
    case h1 =>
     refine dDrawn.intro [32] (.take 0 (.take 5 (.br 1 (.br 2 (.br 3 (.take 4 (.br 6 (.take 7 .done) .nobr)) (.br 4 (.br 3 (.br 6 (.take 7 .done) .nobr) .nobr) .nobr)) (.br 4 (.br 2 (.br 3 (.br 6 (.take 7 .done) .nobr) .nobr) .nobr) .nobr)) (.br 4 (.br 1 (.br 2 (.br 3 (.br 6 (.take 7 .done) .nobr) .nobr) .nobr) .nobr) .nobr)))) (by kernel_rfl) ?_
     simp only [tt, seval]
     all_goals repeat' first | refine brC ?_ ?_ | refine brC2 ?_ ?_
     all_goals
      refine cZ (l10Sign_d ⟨#[40]⟩) (by decide) ?_ ?_ <;> simp only [tt, seval, gT, Tok.row]
     all_goals repeat' first | refine brA ?_ ?_ | refine brA2 ?_ ?_ | refine brA3 ?_ ?_
     all_goals
      refine ⟨by kernel_rfl, ⟨by simp only [maxLen]; (try simp only [ll] at *); omega, by (try simp only [ll] at *); omega⟩, ?_⟩
      rw [tok1 (out), len1 (out) (Tok.mk 5 ⟨#[40]⟩ 0)]
     all_goals repeat' first | refine brC ?_ ?_ | refine brC2 ?_ ?_
     all_goals
      refine cZ (hx (out ++ [(Tok.mk 5 ⟨#[40]⟩ 0)]) (by (try simp only [ll] at *); omega)) (by decide) ?_ ?_
      ·simp only [tt, seval]
       decide
      simp only [tt, seval]
     all_goals exact ⟨rfl, rfl, rfl⟩
    case h2 =>
     intro f' hj0
     simp only [tt, seval, hj0]
     refine cZ (l10Sign_d ⟨#[41]⟩) (by decide) ?_ ?_ <;> simp only [tt, seval, gT, Tok.row]
     refine ⟨by kernel_rfl, ⟨by simp only [maxLen]; (try simp only [ll] at *); omega, by (try simp only [ll] at *); omega⟩, ?_⟩
     rw [tok1 (out ++ [(Tok.mk 5 ⟨#[40]⟩ 0)] ++ l), len1 (out ++ [(Tok.mk 5 ⟨#[40]⟩ 0)] ++ l) (Tok.mk 5 ⟨#[41]⟩ 0)]
     refine ⟨_, [], owE (l := out ++ [(Tok.mk 5 ⟨#[40]⟩ 0)] ++ l ++ [(Tok.mk 5 ⟨#[41]⟩ 0)]) (by skip; simp [parL, lpT, rpT, gT]), endOk ?_⟩
     simp only [tt, seval]
   ·rw [decide_eq_false h9] at hroom ⊢
    have hroom : out.length + l.length ≤ 1000000 := hroom
    refine cZ (hx out hroom) (by decide) ?_ ?_ <;> simp only [tt, seval]
    refine ⟨_, [], owE (l := out ++ l) (by skip; simp [parL]), endOk ?_⟩
    simp only [tt, seval]
theorem kidL_at {full : Bool} {g : Expr → List Tok} {kind op : Int} {kids : List Expr} {k : Nat} (hk : k < kids.length) : kidL full g kind op kids k = parL (wrF full kind op kids k) (g kids[k]) := by rw [kidL, List.getD_eq_getElem?_getD, List.getElem?_eq_getElem hk]; rfl
theorem qne (q : Query) : (q.row = []) = False := eq_false fun h => Query.ne q [] (by rw [h]; rfl)
theorem idx0 {l : List Query} {q : Query} (h : l = [q]) (C : List D → Prop) : (∃ ds', l.flatMap Query.row = ds' ∧ ¬ ds' = [] ∧ C ds') = C q.row := by
 subst h
 have e : [q].flatMap Query.row = q.row := by simp
 rw [e]
 exact propext ⟨fun ⟨_, h1, _, h3⟩ => h1 ▸ h3, fun h => ⟨_, rfl, fun h0 => (qne q ▸ h0 : False), h⟩⟩
def TkQ (full : Bool) (q : Query) (l : List Tok) : Prop := ∀ out : List Tok, out.length + l.length ≤ 1000000 → Cl Tryz.prog 93 [.c (.ow 61 (out).length ((out).flatMap Tok.row) none), .ag (csOf q.row), vb full] [] fun r _ => r = .c (.ow 61 (out ++ l).length ((out ++ l).flatMap Tok.row) none)
set_option maxHeartbeats 4000000 in
theorem l10Expr_step (kind op : Int) (not : Bool) (val : Val) (qual name : ByteArray) (kids : List Expr) (sub : List Query) (full : Bool) (gf : Expr → Bool) (g : Expr → List Tok) (hf : fmF gf (Expr.mk kind op not val qual name kids sub) = true) (hnum : -9223372036854775808 ≤ val.num ∧ val.num ≤ 9223372036854775807) (hg : ∀ x ∈ kids, TkC full x (g x)) (hgq : ∀ q ∈ sub, TkQ full q (quT g q)) : TkC full (Expr.mk kind op not val qual name kids sub) (exT full g (Expr.mk kind op not val qual name kids sub)) := by
 intro out hroom
 have hkid : ∀ k (hk : k < kids.length) (out : List Tok), out.length + (kidL full g kind op kids k).length ≤ 1000000 → Cl Tryz.prog 91 [.c (.ow 61 (out).length ((out).flatMap Tok.row) none), .ag (csOf (Expr.mk kind op not val qual name kids sub).row), vi k, vb full] [] fun r _ => r = .c (.ow 61 (out ++ kidL full g kind op kids k).length ((out ++ kidL full g kind op kids k).flatMap Tok.row) none) := fun k hk out hr => by
  rw [kidL_at hk] at hr ⊢
  exact l10Kid_d kind op not val qual name kids sub full k hk _ (hg _ (List.getElem_mem hk)) out hr
 have hsp := (fm_parts hf).1
 clear hf hg
 rw [Expr.row_mk]
 rcases shape_cases hsp with ⟨rfl, hl, hk0, hs0⟩ | ⟨rfl, hn, hm, hk0, hs0⟩ | ⟨rfl, ho, hk0, hs0⟩ | ⟨rfl, ho, hk0, hs0⟩ | ⟨rfl, hk0, hs0⟩ | ⟨rfl, hk0, hs0⟩ | ⟨rfl, hk0, hs0⟩ | ⟨rfl, hk0, hs0⟩ | ⟨rfl, hk0, hs0⟩
 ·skip
  have e : exT full g (Expr.mk 1 op not val qual name kids sub) = [litT val] := rfl
  rw [e] at hroom ⊢
  clear e
  simp only [ll] at hroom
  refine cl_of_d follows_mixed false Tryz.func37 rfl (by kernel_rfl) ?_
  simp only [Tryz.f37, tt, seval]
  refine cZ (l10Lit_d val hnum.1 hnum.2) (by decide) ?_ ?_ <;> simp only [tt, seval, Tok.row, Val.row]
  refine ⟨by kernel_rfl, ⟨by simp only [maxLen]; (try simp only [ll] at *); omega, by (try simp only [ll] at *); omega⟩, ?_⟩
  rw [tok1 (out), len1 (out) (Tok.mk (litT val).kind (litT val).text (litT val).at_)]
  refine ⟨_, [], owE (l := out ++ [(Tok.mk (litT val).kind (litT val).text (litT val).at_)]) (by rfl), endOk ?_⟩
  simp only [tt, seval]
 ·skip
  have e : exT full g (Expr.mk 2 op not val qual name kids sub) = qualL qual ++ [nT name] := rfl
  rw [e] at hroom ⊢
  clear e
  simp only [ll] at hroom
  refine cl_of_d follows_mixed false Tryz.func37 rfl (by kernel_rfl) ?_
  simp only [Tryz.f37, tt, seval]
  refine And.intro (fun hq => ?_) (fun hq => ?_)
  ·have hq : ¬ qual = ⟨#[]⟩ := by simpa using hq
   rw [qualL, if_neg hq] at hroom ⊢
   simp only [ll] at hroom
   simp only [tt, seval]
   refine cZ (l10Name_d qual) (by decide) ?_ ?_ <;> simp only [tt, seval, nT, Tok.row]
   refine cZ (l10Sign_d ⟨#[46]⟩) (by decide) ?_ ?_ <;> simp only [tt, seval, gT, Tok.row]
   refine ⟨by kernel_rfl, ⟨by simp only [maxLen]; (try simp only [ll] at *); omega, by (try simp only [ll] at *); omega⟩, ?_⟩
   rw [tok2 (out), len2 (out) (Tok.mk 2 qual 0) (Tok.mk 5 ⟨#[46]⟩ 0)]
   refine cZ (l10Name_d name) (by decide) ?_ ?_ <;> simp only [tt, seval, nT, Tok.row]
   refine ⟨by kernel_rfl, ⟨by simp only [maxLen]; (try simp only [ll] at *); omega, by (try simp only [ll] at *); omega⟩, ?_⟩
   rw [tok1 (out ++ [(Tok.mk 2 qual 0), (Tok.mk 5 ⟨#[46]⟩ 0)]), len1 (out ++ [(Tok.mk 2 qual 0), (Tok.mk 5 ⟨#[46]⟩ 0)]) (Tok.mk 2 name 0)]
   refine ⟨_, [], owE (l := out ++ [(Tok.mk 2 qual 0), (Tok.mk 5 ⟨#[46]⟩ 0)] ++ [(Tok.mk 2 name 0)]) (by simp [dtT, gT]), endOk ?_⟩
   simp only [tt, seval]
  ·have hq : qual = ⟨#[]⟩ := by simpa using hq
   rw [qualL, if_pos hq] at hroom ⊢
   simp only [ll] at hroom
   simp only [tt, seval]
   refine cZ (l10Name_d name) (by decide) ?_ ?_ <;> simp only [tt, seval, nT, Tok.row]
   refine ⟨by kernel_rfl, ⟨by simp only [maxLen]; (try simp only [ll] at *); omega, by (try simp only [ll] at *); omega⟩, ?_⟩
   rw [tok1 (out), len1 (out) (Tok.mk 2 name 0)]
   refine ⟨_, [], owE (l := out ++ [(Tok.mk 2 name 0)]) (by rfl), endOk ?_⟩
   simp only [tt, seval]
 ·skip
  have e : exT full g (Expr.mk 3 op not val qual name kids sub) = opTk op :: kidL full g 3 op kids 0 := rfl
  rw [e] at hroom ⊢
  clear e
  have hkid0 := hkid 0 (by omega)
  generalize kidL full g 3 op kids 0 = a0 at *
  simp only [ll] at hroom
  refine cl_of_d follows_mixed false Tryz.func37 rfl (by kernel_rfl) ?_
  simp only [Tryz.f37, tt, seval]
  apply dDrawn_j1 6
  case h1 =>
   refine dDrawn.intro [46] (.take 0 (.take 1 (.take 2 (.take 7 (.br 3 (.br 4 (.br 5 (.take 6 (.br 8 (.take 9 .done) .nobr)) (.br 6 (.br 5 (.br 8 (.take 9 .done) .nobr) .nobr) .nobr)) (.br 6 (.br 4 (.br 5 (.br 8 (.take 9 .done) .nobr) .nobr) .nobr) .nobr)) (.br 6 (.br 3 (.br 4 (.br 5 (.br 8 (.take 9 .done) .nobr) .nobr) .nobr) .nobr) .nobr)))))) (by kernel_rfl) ?_
   simp only [tt, seval]
   all_goals repeat' first | refine brC ?_ ?_ | refine brC2 ?_ ?_
   all_goals
    refine cZ (l10Op_d op) (by decide) ?_ ?_ <;> simp only [tt, seval, Tok.row]
   all_goals repeat' first | refine brA ?_ ?_ | refine brA2 ?_ ?_ | refine brA3 ?_ ?_
   all_goals
    refine ⟨by kernel_rfl, ⟨by simp only [maxLen]; (try simp only [ll] at *); omega, by (try simp only [ll] at *); omega⟩, ?_⟩
    rw [tok1 (out), len1 (out) (Tok.mk (opTk op).kind (opTk op).text (opTk op).at_)]
   all_goals repeat' first | refine brC ?_ ?_ | refine brC2 ?_ ?_
   all_goals
    refine cZ (hkid0 (out ++ [(Tok.mk (opTk op).kind (opTk op).text (opTk op).at_)]) (by (try simp only [ll] at *); omega)) (by decide) ?_ ?_
    ·simp only [tt, seval, Expr.row_mk]
     decide
    simp only [tt, seval, Expr.row_mk]
   all_goals exact ⟨rfl, rfl, rfl⟩
  case h2 =>
   intro f' hj0
   simp only [tt, seval, hj0]
   refine ⟨_, [], owE (l := out ++ [(Tok.mk (opTk op).kind (opTk op).text (opTk op).at_)] ++ a0) (by simp), endOk ?_⟩
   simp only [tt, seval]
 ·skip
  have e : exT full g (Expr.mk 4 op not val qual name kids sub) = kidL full g 4 op kids 0 ++ (opTk op :: kidL full g 4 op kids 1) := rfl
  rw [e] at hroom ⊢
  clear e
  have hkid0 := hkid 0 (by omega)
  generalize kidL full g 4 op kids 0 = a0 at *
  have hkid1 := hkid 1 (by omega)
  generalize kidL full g 4 op kids 1 = a1 at *
  simp only [ll] at hroom
  refine cl_of_d follows_mixed false Tryz.func37 rfl (by kernel_rfl) ?_
  simp only [Tryz.f37, tt, seval]
  refine cZ (hkid0 (out) (by (try simp only [ll] at *); omega)) (by decide) ?_ ?_ <;> simp only [tt, seval, Expr.row_mk]
  apply dDrawn_j1 6
  case h1 =>
   refine dDrawn.intro [80] (.take 0 (.take 1 (.take 2 (.take 7 (.br 3 (.br 4 (.br 5 (.take 6 (.br 8 (.take 9 .done) .nobr)) (.br 6 (.br 5 (.br 8 (.take 9 .done) .nobr) .nobr) .nobr)) (.br 6 (.br 4 (.br 5 (.br 8 (.take 9 .done) .nobr) .nobr) .nobr) .nobr)) (.br 6 (.br 3 (.br 4 (.br 5 (.br 8 (.take 9 .done) .nobr) .nobr) .nobr) .nobr) .nobr)))))) (by kernel_rfl) ?_
   simp only [tt, seval]
   all_goals repeat' first | refine brC ?_ ?_ | refine brC2 ?_ ?_
   all_goals
    refine cZ (l10Op_d op) (by decide) ?_ ?_ <;> simp only [tt, seval, Tok.row]
   all_goals repeat' first | refine brA ?_ ?_ | refine brA2 ?_ ?_ | refine brA3 ?_ ?_
   all_goals
    refine ⟨by kernel_rfl, ⟨by simp only [maxLen]; (try simp only [ll] at *); omega, by (try simp only [ll] at *); omega⟩, ?_⟩
    rw [tok1 (out ++ a0), len1 (out ++ a0) (Tok.mk (opTk op).kind (opTk op).text (opTk op).at_)]
   all_goals repeat' first | refine brC ?_ ?_ | refine brC2 ?_ ?_
   all_goals
    refine cZ (hkid1 (out ++ a0 ++ [(Tok.mk (opTk op).kind (opTk op).text (opTk op).at_)]) (by (try simp only [ll] at *); omega)) (by decide) ?_ ?_
    ·simp only [tt, seval, Expr.row_mk]
     decide
    simp only [tt, seval, Expr.row_mk]
   all_goals exact ⟨rfl, rfl, rfl⟩
  case h2 =>
   intro f' hj0
   simp only [tt, seval, hj0]
   refine ⟨_, [], owE (l := out ++ a0 ++ [(Tok.mk (opTk op).kind (opTk op).text (opTk op).at_)] ++ a1) (by simp [List.append_assoc]), endOk ?_⟩
   simp only [tt, seval]
 ·skip
  have e : exT full g (Expr.mk 5 op not val qual name kids sub) = kidL full g 5 op kids 0 ++ (kT 16 :: (notL not ++ [kT 20])) := rfl
  rw [e] at hroom ⊢
  clear e
  have hkid0 := hkid 0 (by omega)
  generalize kidL full g 5 op kids 0 = a0 at *
  simp only [ll] at hroom
  refine cl_of_d follows_mixed false Tryz.func37 rfl (by kernel_rfl) ?_
  simp only [Tryz.f37, tt, seval]
  refine cZ (hkid0 (out) (by (try simp only [ll] at *); omega)) (by decide) ?_ ?_ <;> simp only [tt, seval, Expr.row_mk]
  apply dDrawn_j1 6
  case h1 =>
   refine dDrawn.intro [88] (.take 0 (.br 1 (.br 2 (.br 3 (.take 4 (.br 5 (.br 6 (.br 7 (.br 8 (.take 9 .done) .nobr) .nobr) .nobr) .nobr)) (.br 4 (.br 3 (.br 5 (.br 6 (.br 7 (.br 8 (.take 9 .done) .nobr) .nobr) .nobr) .nobr) .nobr) .nobr)) (.br 4 (.br 2 (.br 3 (.br 5 (.br 6 (.br 7 (.br 8 (.take 9 .done) .nobr) .nobr) .nobr) .nobr) .nobr) .nobr) .nobr)) (.br 4 (.br 1 (.br 2 (.br 3 (.br 5 (.br 6 (.br 7 (.br 8 (.take 9 .done) .nobr) .nobr) .nobr) .nobr) .nobr) .nobr) .nobr) .nobr))) (by kernel_rfl) ?_
   simp only [tt, seval]
   all_goals repeat' first | refine brC ?_ ?_ | refine brC2 ?_ ?_
   all_goals
    refine cZ (l10Key_d 16 (by omega) (by omega)) (by decide) ?_ ?_ <;> simp only [tt, seval, kT, Tok.row]
   all_goals repeat' first | refine brA ?_ ?_ | refine brA2 ?_ ?_ | refine brA3 ?_ ?_
   all_goals
    refine ⟨by kernel_rfl, ⟨by simp only [maxLen]; (try simp only [ll] at *); omega, by (try simp only [ll] at *); omega⟩, ?_⟩
    rw [tok1 (out ++ a0), len1 (out ++ a0) (Tok.mk 1 (kw 16) 0)]
   all_goals repeat' first | refine brC ?_ ?_ | refine brC2 ?_ ?_
   all_goals
    refine cZ (l10Not_d (out ++ a0 ++ [(Tok.mk 1 (kw 16) 0)]) (Expr.mk 5 op not val qual name kids sub) (by (try simp only [ll] at *); omega)) (by decide) ?_ ?_
    ·simp only [tt, seval, Expr.row_mk]
     decide
    simp only [tt, seval, Expr.row_mk, Expr.not]
   all_goals repeat' first | refine brC ?_ ?_ | refine brC2 ?_ ?_
   all_goals
    refine cZ (l10Key_d 20 (by omega) (by omega)) (by decide) ?_ ?_ <;> simp only [tt, seval, kT, Tok.row]
   all_goals repeat' first | refine brA ?_ ?_ | refine brA2 ?_ ?_ | refine brA3 ?_ ?_
   all_goals
    refine ⟨by kernel_rfl, ⟨by simp only [maxLen]; (try simp only [ll] at *); omega, by (try simp only [ll] at *); omega⟩, ?_⟩
    rw [tok1 (out ++ a0 ++ [(Tok.mk 1 (kw 16) 0)] ++ notL not), len1 (out ++ a0 ++ [(Tok.mk 1 (kw 16) 0)] ++ notL not) (Tok.mk 1 (kw 20) 0)]
   all_goals exact ⟨rfl, rfl, rfl⟩
  case h2 =>
   intro f' hj0
   simp only [tt, seval, hj0]
   refine ⟨_, [], owE (l := out ++ a0 ++ [(Tok.mk 1 (kw 16) 0)] ++ notL not ++ [(Tok.mk 1 (kw 20) 0)]) (by simp [kT, notL, List.append_assoc]), endOk ?_⟩
   simp only [tt, seval]
 ·skip
  have e : exT full g (Expr.mk 6 op not val qual name kids sub) = kidL full g 6 op kids 0 ++ (notL not ++ (kT 18 :: (kidL full g 6 op kids 1 ++ (kT 13 :: kidL full g 6 op kids 2)))) := rfl
  rw [e] at hroom ⊢
  clear e
  have hkid0 := hkid 0 (by omega)
  generalize kidL full g 6 op kids 0 = a0 at *
  have hkid1 := hkid 1 (by omega)
  generalize kidL full g 6 op kids 1 = a1 at *
  have hkid2 := hkid 2 (by omega)
  generalize kidL full g 6 op kids 2 = a2 at *
  simp only [ll] at hroom
  refine cl_of_d follows_mixed false Tryz.func37 rfl (by kernel_rfl) ?_
  simp only [Tryz.f37, tt, seval]
  refine cZ (hkid0 (out) (by (try simp only [ll] at *); omega)) (by decide) ?_ ?_ <;> simp only [tt, seval, Expr.row_mk]
  apply dDrawn_j3 0 4 2
  case h1 =>
   refine dDrawn.intro [96, 102] (.take 0 (.take 1 (.take 7 (.br 2 (.br 3 (.br 4 (.br 5 (.take 6 (.br 8 (.take 9 .done) .nobr)) (.br 6 (.br 5 (.br 8 (.take 9 .done) .nobr) .nobr) .nobr)) (.br 6 (.br 4 (.br 5 (.br 8 (.take 9 .done) .nobr) .nobr) .nobr) .nobr)) (.br 6 (.br 3 (.br 4 (.br 5 (.br 8 (.take 9 .done) .nobr) .nobr) .nobr) .nobr) .nobr)) (.br 6 (.br 2 (.br 3 (.br 4 (.br 5 (.br 8 (.take 9 .done) .nobr) .nobr) .nobr) .nobr) .nobr) .nobr))))) (by kernel_rfl) ?_
   simp only [tt, seval]
   all_goals repeat' first | refine brC ?_ ?_ | refine brC2 ?_ ?_
   all_goals
    refine cZ (l10Not_d (out ++ a0) (Expr.mk 6 op not val qual name kids sub) (by (try simp only [ll] at *); omega)) (by decide) ?_ ?_
    ·simp only [tt, seval, Expr.row_mk]
     decide
    simp only [tt, seval, Expr.row_mk, Expr.not]
   all_goals repeat' first | refine brC ?_ ?_ | refine brC2 ?_ ?_
   all_goals
    refine cZ (l10Key_d 18 (by omega) (by omega)) (by decide) ?_ ?_ <;> simp only [tt, seval, kT, Tok.row]
   all_goals repeat' first | refine brA ?_ ?_ | refine brA2 ?_ ?_ | refine brA3 ?_ ?_
   all_goals
    refine ⟨by kernel_rfl, ⟨by simp only [maxLen]; (try simp only [ll] at *); omega, by (try simp only [ll] at *); omega⟩, ?_⟩
    rw [tok1 (out ++ a0 ++ notL not), len1 (out ++ a0 ++ notL not) (Tok.mk 1 (kw 18) 0)]
   all_goals repeat' first | refine brC ?_ ?_ | refine brC2 ?_ ?_
   all_goals
    refine cZ (hkid1 (out ++ a0 ++ notL not ++ [(Tok.mk 1 (kw 18) 0)]) (by (try simp only [ll] at *); omega)) (by decide) ?_ ?_
    ·simp only [tt, seval, Expr.row_mk]
     decide
    simp only [tt, seval, Expr.row_mk]
   all_goals exact ⟨rfl, rfl, rfl, rfl, rfl⟩
  case h2 =>
   intro f' hj0 hj1 hj2
   simp only [tt, seval]
   apply dDrawn_j1 6
   case h1 =>
    refine dDrawn.intro [109] (.take 0 (.take 5 (.br 1 (.br 2 (.br 3 (.take 4 (.br 6 (.take 7 .done) .nobr)) (.br 4 (.br 3 (.br 6 (.take 7 .done) .nobr) .nobr) .nobr)) (.br 4 (.br 2 (.br 3 (.br 6 (.take 7 .done) .nobr) .nobr) .nobr) .nobr)) (.br 4 (.br 1 (.br 2 (.br 3 (.br 6 (.take 7 .done) .nobr) .nobr) .nobr) .nobr) .nobr)))) (by kernel_rfl) ?_
    simp only [tt, seval]
    all_goals try simp only [tt, seval, hj0, hj1, hj2]
    all_goals repeat' first | refine brC ?_ ?_ | refine brC2 ?_ ?_
    all_goals
     refine cZ (l10Key_d 13 (by omega) (by omega)) (by decide) ?_ ?_ <;> simp only [tt, seval, kT, Tok.row, hj1]
    all_goals repeat' first | refine brA ?_ ?_ | refine brA2 ?_ ?_ | refine brA3 ?_ ?_
    all_goals
     refine ⟨by kernel_rfl, ⟨by simp only [maxLen]; (try simp only [ll] at *); omega, by (try simp only [ll] at *); omega⟩, ?_⟩
     rw [tok1 (out ++ a0 ++ notL not ++ [(Tok.mk 1 (kw 18) 0)] ++ a1), len1 (out ++ a0 ++ notL not ++ [(Tok.mk 1 (kw 18) 0)] ++ a1) (Tok.mk 1 (kw 13) 0)]
    all_goals repeat' first | refine brC ?_ ?_ | refine brC2 ?_ ?_
    all_goals
     refine cZ (hkid2 (out ++ a0 ++ notL not ++ [(Tok.mk 1 (kw 18) 0)] ++ a1 ++ [(Tok.mk 1 (kw 13) 0)]) (by (try simp only [ll] at *); omega)) (by decide) ?_ ?_
     ·simp only [tt, seval, Expr.row_mk]
      decide
     simp only [tt, seval, Expr.row_mk]
    all_goals exact ⟨rfl, rfl, rfl⟩
   case h2 =>
    intro f' hj0
    simp only [tt, seval, hj0]
    refine ⟨_, [], owE (l := out ++ a0 ++ notL not ++ [(Tok.mk 1 (kw 18) 0)] ++ a1 ++ [(Tok.mk 1 (kw 13) 0)] ++ a2) (by simp [kT, notL, List.append_assoc]), endOk ?_⟩
    simp only [tt, seval]
 ·skip
  have e : exT full g (Expr.mk 7 op not val qual name kids sub) = kidL full g 7 op kids 0 ++ (notL not ++ (kT 17 :: lpT :: ((seqN (inF full g 7 op kids) (kids.length - 1)) ++ [rpT]))) := rfl
  rw [e] at hroom ⊢
  clear e
  simp only [ll] at hroom
  refine cl_of_d follows_mixed false Tryz.func37 rfl (by kernel_rfl) ?_
  simp only [Tryz.f37, tt, seval]
  have hkid0 := hkid 0 (by omega)
  obtain ⟨a0, ha0⟩ : ∃ a0, a0 = kidL full g 7 op kids 0 := ⟨_, rfl⟩
  rw [← ha0] at hkid0 hroom ⊢
  refine cZ (hkid0 (out) (by (try simp only [ll] at *); omega)) (by decide) ?_ ?_ <;> simp only [tt, seval, Expr.row_mk]
  refine cZ (l10Not_d (out ++ a0) (Expr.mk 7 op not val qual name kids sub) (by (try simp only [ll] at *); omega)) (by decide) ?_ ?_ <;> simp only [tt, seval, Expr.row_mk, Expr.not]
  refine cZ (l10Key_d 17 (by omega) (by omega)) (by decide) ?_ ?_ <;> simp only [tt, seval, kT, Tok.row]
  refine cZ (l10Sign_d ⟨#[40]⟩) (by decide) ?_ ?_ <;> simp only [tt, seval, gT, Tok.row]
  refine ⟨by kernel_rfl, ⟨by simp only [maxLen]; (try simp only [ll] at *); omega, by (try simp only [ll] at *); omega⟩, ?_⟩
  rw [tok2 (out ++ a0 ++ notL not), len2 (out ++ a0 ++ notL not) (Tok.mk 1 (kw 17) 0) (Tok.mk 5 ⟨#[40]⟩ 0)]
  obtain ⟨L0, hL0⟩ : ∃ L0, L0 = out ++ a0 ++ notL not ++ [(Tok.mk 1 (kw 17) 0), (Tok.mk 5 ⟨#[40]⟩ 0)] := ⟨_, rfl⟩
  have hL0l : L0.length = out.length + a0.length + (notL not).length + 2 := by rw [hL0]; simp only [ll]
  rw [← hL0]
  refine dLoop.gh [.ren 116 10147] ⟨by decide, by decide, ?_⟩
  refine dLoop0.intro (fun f L p => ∃ (j : Nat) (es : List Tok), f 7 = vi (j + 1 : Nat) ∧ f 0 = .c (.s 10147 es.length) ∧ j ≤ kids.length - 1 ∧ es = L0 ++ seqN (inF full g 7 op kids) j ∧ L = [(10147, .arr 61 es.length (es.flatMap Tok.row) none), (4, .str [.v (.int .i64 7), .v (.int .i64 op), .v (.bool not), .v (.int .i64 val.kind), .v (.int .i64 val.num), .v (.string val.text), .v (.string qual), .v (.string name), .sl kids.length (kids.flatMap Expr.row) none, .sl sub.length (sub.flatMap Query.row) none])] ∧ p = none) (fun f _ _ => (kids.length - ixS (f 7)).toNat) [(10147, .arr 61 L0.length (L0.flatMap Tok.row) none), (4, .str [.v (.int .i64 7), .v (.int .i64 op), .v (.bool not), .v (.int .i64 val.kind), .v (.int .i64 val.num), .v (.string val.text), .v (.string qual), .v (.string name), .sl kids.length (kids.flatMap Expr.row) none, .sl sub.length (sub.flatMap Query.row) none])] none ⟨SubO.cons rfl (SubO.cons rfl (SubO.nil _)), PoSub.none _, ?_⟩ ?_
  ·simp only [tt, seval]
   exact ⟨0, L0, rfl, rfl, by omega, (List.append_nil _).symm, rfl⟩
  ·rintro g' L p ⟨j, es, hi, hx, hjn, hes0, rfl, rfl⟩
   simp only [tt, seval] at hi hx
   simp only [tt, seval, hi, hx]
   refine fun _ => And.intro (fun hlt => ?_) (fun hge => ?_)
   ·have hlt : j < kids.length - 1 := by omega
    have hst := seqN_succ (inF full g 7 op kids) j
    have hlt2 := seqN_lt (inF full g 7 op kids) hlt
    have hel : es.length = L0.length + (seqN (inF full g 7 op kids) j).length := by rw [hes0, List.length_append]
    have hlen : (L0 ++ seqN (inF full g 7 op kids) (kids.length - 1)).length + 1 ≤ 1000000 := by simp only [ll] at *; omega
    simp only [ll] at hlen
    refine And.intro (fun hc => ?_) (fun hc => ?_)
    ·have hj0 : 0 < j := by omega
     have hfj : inF full g 7 op kids j = [(Tok.mk 5 ⟨#[44]⟩ 0)] ++ kidL full g 7 op kids (j + 1) := by rw [inF, cmL, if_pos hj0]; rfl
     rw [hfj] at hst hlt2
     simp only [ll] at hlt2
     have hkj := hkid (j + 1) (by omega)
     generalize kidL full g 7 op kids (j + 1) = aj at *
     refine cZ (l10Sign_d ⟨#[44]⟩) (by decide) ?_ ?_ <;> simp only [tt, seval, gT, Tok.row, hi]
     refine ⟨by kernel_rfl, ⟨by simp only [maxLen]; (try simp only [ll] at *); omega, by (try simp only [ll] at *); omega⟩, ?_⟩
     rw [tok1 (es), len1 (es) (Tok.mk 5 ⟨#[44]⟩ 0)]
     refine cZ (hkj (es ++ [(Tok.mk 5 ⟨#[44]⟩ 0)]) (by (try simp only [ll] at *); omega)) (by decide) ?_ ?_ <;> simp only [tt, seval, Expr.row_mk, hi]
     rw [wrap_id (n := ((j + 1 : Nat) : Int) + 1) (by omega) (by omega)]
     exact ⟨[(10147, .arr 61 (es ++ [(Tok.mk 5 ⟨#[44]⟩ 0)] ++ aj).length ((es ++ [(Tok.mk 5 ⟨#[44]⟩ 0)] ++ aj).flatMap Tok.row) none), (4, .str [.v (.int .i64 7), .v (.int .i64 op), .v (.bool not), .v (.int .i64 val.kind), .v (.int .i64 val.num), .v (.string val.text), .v (.string qual), .v (.string name), .sl kids.length (kids.flatMap Expr.row) none, .sl sub.length (sub.flatMap Query.row) none])], none, SubO.cons rfl (SubO.cons rfl (SubO.nil _)), PoSub.none _, ⟨j + 1, es ++ [(Tok.mk 5 ⟨#[44]⟩ 0)] ++ aj, rfl, rfl, by omega, by rw [hst, hes0]; simp [List.append_assoc], rfl, rfl⟩, by simp only [ixS]; omega⟩
    ·have hj0 : j = 0 := by omega
     subst hj0
     have hfj : inF full g 7 op kids 0 = kidL full g 7 op kids (0 + 1) := by rw [inF, cmL, if_neg (Nat.lt_irrefl 0)]; rfl
     rw [hfj] at hst hlt2
     have hkj := hkid (0 + 1) (by omega)
     generalize kidL full g 7 op kids (0 + 1) = aj at *
     simp only [tt, seval]
     refine cZ (hkj es (by (try simp only [ll] at *); omega)) (by decide) ?_ ?_ <;> simp only [tt, seval, Expr.row_mk, hi]
     try rw [wrap_id (n := (2 : Int)) (by omega) (by omega)]
     exact ⟨[(10147, .arr 61 (es ++ aj).length ((es ++ aj).flatMap Tok.row) none), (4, .str [.v (.int .i64 7), .v (.int .i64 op), .v (.bool not), .v (.int .i64 val.kind), .v (.int .i64 val.num), .v (.string val.text), .v (.string qual), .v (.string name), .sl kids.length (kids.flatMap Expr.row) none, .sl sub.length (sub.flatMap Query.row) none])], none, SubO.cons rfl (SubO.cons rfl (SubO.nil _)), PoSub.none _, ⟨0 + 1, es ++ aj, rfl, rfl, by omega, by rw [hst, hes0]; simp [List.append_assoc], rfl, rfl⟩, by simp only [ixS]; omega⟩
   ·have hje : j = kids.length - 1 := by omega
    rw [hje] at hes0
    have hel : es.length = L0.length + (seqN (inF full g 7 op kids) (kids.length - 1)).length := by rw [hes0, List.length_append]
    refine cZ (l10Sign_d ⟨#[41]⟩) (by decide) ?_ ?_ <;> simp only [tt, seval, gT, Tok.row]
    refine ⟨by kernel_rfl, ⟨by simp only [maxLen]; (try simp only [ll] at *); omega, by (try simp only [ll] at *); omega⟩, ?_⟩
    rw [tok1 (es), len1 (es) (Tok.mk 5 ⟨#[41]⟩ 0)]
    refine ⟨_, [], owE (l := es ++ [(Tok.mk 5 ⟨#[41]⟩ 0)]) (by rw [hes0, hL0]; simp [lpT, rpT, gT, kT, notL, List.append_assoc]), endOk ?_⟩
    simp only [tt, seval]
 ·skip
  obtain ⟨q, hsub⟩ := list1 hs0
  have hsl : subL' g sub = quT g q := by rw [hsub]; rfl
  have hq := hgq q (by rw [hsub]; simp)
  have hpos : ((0 : Int) < sub.length) = True := eq_true (by omega)
  have e : exT full g (Expr.mk 8 op not val qual name kids sub) = kidL full g 8 op kids 0 ++ (notL not ++ (kT 17 :: lpT :: (subL' g sub ++ [rpT]))) := rfl
  rw [e] at hroom ⊢
  clear e
  have hkid0 := hkid 0 (by omega)
  generalize kidL full g 8 op kids 0 = a0 at *
  simp only [ll] at hroom
  refine cl_of_d follows_mixed false Tryz.func37 rfl (by kernel_rfl) ?_
  simp only [Tryz.f37, tt, seval]
  rw [hsl] at hroom ⊢
  refine cZ (hkid0 (out) (by (try simp only [ll] at *); omega)) (by decide) ?_ ?_ <;> simp only [tt, seval, Expr.row_mk]
  refine cZ (l10Not_d (out ++ a0) (Expr.mk 8 op not val qual name kids sub) (by (try simp only [ll] at *); omega)) (by decide) ?_ ?_ <;> simp only [tt, seval, Expr.row_mk, Expr.not]
  refine cZ (l10Key_d 17 (by omega) (by omega)) (by decide) ?_ ?_ <;> simp only [tt, seval, kT, Tok.row]
  refine cZ (l10Sign_d ⟨#[40]⟩) (by decide) ?_ ?_ <;> simp only [tt, seval, gT, Tok.row]
  refine ⟨by kernel_rfl, ⟨by simp only [maxLen]; (try simp only [ll] at *); omega, by (try simp only [ll] at *); omega⟩, ?_⟩
  rw [tok2 (out ++ a0 ++ notL not), len2 (out ++ a0 ++ notL not) (Tok.mk 1 (kw 17) 0) (Tok.mk 5 ⟨#[40]⟩ 0)]
  simp only [tt, seval, idx0 hsub, hpos, takeD_all (Query.row_len q), Query.row_len]
  refine cZ (hq (out ++ a0 ++ notL not ++ [(Tok.mk 1 (kw 17) 0), (Tok.mk 5 ⟨#[40]⟩ 0)]) (by (try simp only [ll] at *); omega)) (by decide) ?_ ?_ <;> simp only [tt, seval]
  refine cZ (l10Sign_d ⟨#[41]⟩) (by decide) ?_ ?_ <;> simp only [tt, seval, gT, Tok.row]
  refine ⟨by kernel_rfl, ⟨by simp only [maxLen]; (try simp only [ll] at *); omega, by (try simp only [ll] at *); omega⟩, ?_⟩
  rw [tok1 (out ++ a0 ++ notL not ++ [(Tok.mk 1 (kw 17) 0), (Tok.mk 5 ⟨#[40]⟩ 0)] ++ quT g q), len1 (out ++ a0 ++ notL not ++ [(Tok.mk 1 (kw 17) 0), (Tok.mk 5 ⟨#[40]⟩ 0)] ++ quT g q) (Tok.mk 5 ⟨#[41]⟩ 0)]
  refine ⟨_, [], owE (l := out ++ a0 ++ notL not ++ [(Tok.mk 1 (kw 17) 0), (Tok.mk 5 ⟨#[40]⟩ 0)] ++ quT g q ++ [(Tok.mk 5 ⟨#[41]⟩ 0)]) (by simp [lpT, rpT, gT, kT, notL, List.append_assoc]), endOk ?_⟩
  simp only [tt, seval]
 ·skip
  obtain ⟨q, hsub⟩ := list1 hs0
  have hsl : subL' g sub = quT g q := by rw [hsub]; rfl
  have hq := hgq q (by rw [hsub]; simp)
  have hpos : ((0 : Int) < sub.length) = True := eq_true (by omega)
  have e : exT full g (Expr.mk 9 op not val qual name kids sub) = kT 19 :: lpT :: (subL' g sub ++ [rpT]) := rfl
  rw [e] at hroom ⊢
  clear e
  simp only [ll] at hroom
  refine cl_of_d follows_mixed false Tryz.func37 rfl (by kernel_rfl) ?_
  simp only [Tryz.f37, tt, seval]
  rw [hsl] at hroom ⊢
  apply dDrawn_j1 0
  case h1 =>
   refine dDrawn.intro [59] (.take 0 (.take 5 (.take 9 (.br 1 (.br 2 (.br 3 (.br 4 (.take 6 (.take 7 (.take 8 (.br 10 (.take 11 .done) .nobr)))) (.br 6 (.take 7 (.br 4 (.take 8 (.br 10 (.take 11 .done) .nobr)) (.br 8 (.br 4 (.br 10 (.take 11 .done) .nobr) .nobr) .nobr))) .nobr)) (.br 6 (.take 7 (.br 3 (.br 4 (.take 8 (.br 10 (.take 11 .done) .nobr)) (.br 8 (.br 4 (.br 10 (.take 11 .done) .nobr) .nobr) .nobr)) (.br 8 (.br 3 (.br 4 (.br 10 (.take 11 .done) .nobr) .nobr) .nobr) .nobr))) .nobr)) (.br 6 (.take 7 (.br 2 (.br 3 (.br 4 (.take 8 (.br 10 (.take 11 .done) .nobr)) (.br 8 (.br 4 (.br 10 (.take 11 .done) .nobr) .nobr) .nobr)) (.br 8 (.br 3 (.br 4 (.br 10 (.take 11 .done) .nobr) .nobr) .nobr) .nobr)) (.br 8 (.br 2 (.br 3 (.br 4 (.br 10 (.take 11 .done) .nobr) .nobr) .nobr) .nobr) .nobr))) .nobr)) (.br 6 (.take 7 (.br 1 (.br 2 (.br 3 (.br 4 (.take 8 (.br 10 (.take 11 .done) .nobr)) (.br 8 (.br 4 (.br 10 (.take 11 .done) .nobr) .nobr) .nobr)) (.br 8 (.br 3 (.br 4 (.br 10 (.take 11 .done) .nobr) .nobr) .nobr) .nobr)) (.br 8 (.br 2 (.br 3 (.br 4 (.br 10 (.take 11 .done) .nobr) .nobr) .nobr) .nobr) .nobr)) (.br 8 (.br 1 (.br 2 (.br 3 (.br 4 (.br 10 (.take 11 .done) .nobr) .nobr) .nobr) .nobr) .nobr) .nobr))) .nobr))))) (by kernel_rfl) ?_
   simp only [tt, seval]
   all_goals try simp only [tt, seval, idx0 hsub, hpos, takeD_all (Query.row_len q), Query.row_len]
   all_goals repeat' first | refine brC ?_ ?_ | refine brC2 ?_ ?_
   all_goals
    refine cZ (l10Key_d 19 (by omega) (by omega)) (by decide) ?_ ?_ <;> simp only [tt, seval, kT, Tok.row, idx0 hsub, hpos, takeD_all (Query.row_len q), Query.row_len]
   all_goals repeat' first | refine brC ?_ ?_ | refine brC2 ?_ ?_
   all_goals
    refine cZ (l10Sign_d ⟨#[40]⟩) (by decide) ?_ ?_ <;> simp only [tt, seval, gT, Tok.row, idx0 hsub, hpos, takeD_all (Query.row_len q), Query.row_len]
   all_goals repeat' first | refine brA ?_ ?_ | refine brA2 ?_ ?_ | refine brA3 ?_ ?_
   all_goals
    refine ⟨by kernel_rfl, ⟨by simp only [maxLen]; (try simp only [ll] at *); omega, by (try simp only [ll] at *); omega⟩, ?_⟩
    rw [tok2 (out), len2 (out) (Tok.mk 1 (kw 19) 0) (Tok.mk 5 ⟨#[40]⟩ 0)]
   all_goals repeat' first | refine brC ?_ ?_ | refine brC2 ?_ ?_
   all_goals
    refine cZ (hq (out ++ [(Tok.mk 1 (kw 19) 0), (Tok.mk 5 ⟨#[40]⟩ 0)]) (by (try simp only [ll] at *); omega)) (by decide) ?_ ?_
    ·simp only [tt, seval]
     decide
    simp only [tt, seval]
   all_goals exact ⟨rfl, rfl, rfl⟩
  case h2 =>
   intro f' hj0
   simp only [tt, seval, hj0]
   refine cZ (l10Sign_d ⟨#[41]⟩) (by decide) ?_ ?_ <;> simp only [tt, seval, kT, gT, Tok.row]
   refine ⟨by kernel_rfl, ⟨by simp only [maxLen]; (try simp only [ll] at *); omega, by (try simp only [ll] at *); omega⟩, ?_⟩
   rw [tok1 (out ++ [(Tok.mk 1 (kw 19) 0), (Tok.mk 5 ⟨#[40]⟩ 0)] ++ quT g q), len1 (out ++ [(Tok.mk 1 (kw 19) 0), (Tok.mk 5 ⟨#[40]⟩ 0)] ++ quT g q) (Tok.mk 5 ⟨#[41]⟩ 0)]
   refine ⟨_, [], owE (l := out ++ [(Tok.mk 1 (kw 19) 0), (Tok.mk 5 ⟨#[40]⟩ 0)] ++ quT g q ++ [(Tok.mk 5 ⟨#[41]⟩ 0)]) (by simp [lpT, rpT, gT, List.append_assoc]), endOk ?_⟩
   simp only [tt, seval]
set_option maxHeartbeats 1000000 in
theorem l10Item_d (full : Bool) (x : Item) (g : Expr → List Tok) (hg : x.star = false → TkC full x.e (g x.e)) (out : List Tok) (hroom : out.length + (itemT g x).length ≤ 1000000) : Cl Tryz.prog 150 [.c (.ow 61 (out).length ((out).flatMap Tok.row) none), .ag (csOf x.row), vb full] [] fun r _ => r = .c (.ow 61 (out ++ itemT g x).length ((out ++ itemT g x).flatMap Tok.row) none) := by
 obtain ⟨star, qual, ⟨k0, o0, n0, v0, q0, m0, ks0, ss0⟩, as_⟩ := x
 cases star
 case false =>
  have hx : ∀ out : List Tok, out.length + (g (Expr.mk k0 o0 n0 v0 q0 m0 ks0 ss0)).length ≤ 1000000 → Cl Tryz.prog 37 [.c (.ow 61 (out).length ((out).flatMap Tok.row) none), .ag (csOf (Expr.mk k0 o0 n0 v0 q0 m0 ks0 ss0).row), vb full] [] fun r _ => r = .c (.ow 61 (out ++ g (Expr.mk k0 o0 n0 v0 q0 m0 ks0 ss0)).length ((out ++ g (Expr.mk k0 o0 n0 v0 q0 m0 ks0 ss0)).flatMap Tok.row) none) := hg rfl
  have e : itemT g (.mk false qual (Expr.mk k0 o0 n0 v0 q0 m0 ks0 ss0) as_) = g (Expr.mk k0 o0 n0 v0 q0 m0 ks0 ss0) ++ asL as_ := rfl
  rw [e] at hroom ⊢
  clear e
  generalize g (Expr.mk k0 o0 n0 v0 q0 m0 ks0 ss0) = l at *
  simp only [ll] at hroom
  rw [Expr.row_mk] at hx
  rw [Item.row_mk, Expr.row_mk]
  refine cl_of_d follows_mixed false Tryz.func150 rfl (by kernel_rfl) ?_
  simp only [Tryz.f150, tt, seval]
  apply dDrawn_j1 6
  case h1 =>
   refine dDrawn.intro [14, 17] (.take 0 (.take 1 (.take 2 (.take 3 (.take 5 (.br 4 (.take 6 (.br 7 (.take 8 .done) .nobr)) (.br 6 (.br 4 (.br 7 (.take 8 .done) .nobr) .nobr) .nobr))))))) (by kernel_rfl) ?_
   simp only [tt, seval]
   all_goals repeat' first | refine brC ?_ ?_ | refine brC2 ?_ ?_
   all_goals
    refine cZ (hx out (by (try simp only [ll] at *); omega)) (by decide) ?_ ?_
    ·simp only [tt, seval]
     decide
    simp only [tt, seval]
   all_goals repeat' first | refine brC ?_ ?_ | refine brC2 ?_ ?_
   all_goals
    refine cZ (l10As_d (out ++ l) as_ (by (try simp only [ll] at *); omega)) (by decide) ?_ ?_
    ·simp only [tt, seval]
     decide
    simp only [tt, seval]
   all_goals exact ⟨rfl, rfl, rfl⟩
  case h2 =>
   intro f' hj0
   simp only [tt, seval, hj0]
   refine ⟨_, [], owE (l := out ++ l ++ asL as_) (by simp [List.append_assoc]), endOk ?_⟩
   simp only [tt, seval]
 case true =>
  have e : itemT g (.mk true qual (Expr.mk k0 o0 n0 v0 q0 m0 ks0 ss0) as_) = qualL qual ++ [stT] := rfl
  rw [e] at hroom ⊢
  clear e
  simp only [ll] at hroom
  rw [Item.row_mk, Expr.row_mk]
  refine cl_of_d follows_mixed false Tryz.func150 rfl (by kernel_rfl) ?_
  simp only [Tryz.f150, tt, seval]
  refine And.intro (fun hq => ?_) (fun hq => ?_)
  ·have hq : ¬ qual = ⟨#[]⟩ := by simpa using hq
   rw [qualL, if_neg hq] at hroom ⊢
   simp only [ll] at hroom
   simp only [tt, seval]
   refine cZ (l10Name_d qual) (by decide) ?_ ?_ <;> simp only [tt, seval, nT, Tok.row]
   refine cZ (l10Sign_d ⟨#[46]⟩) (by decide) ?_ ?_ <;> simp only [tt, seval, gT, Tok.row]
   refine ⟨by kernel_rfl, ⟨by simp only [maxLen]; (try simp only [ll] at *); omega, by (try simp only [ll] at *); omega⟩, ?_⟩
   rw [tok2 (out), len2 (out) (Tok.mk 2 qual 0) (Tok.mk 5 ⟨#[46]⟩ 0)]
   refine cZ (l10Sign_d ⟨#[42]⟩) (by decide) ?_ ?_ <;> simp only [tt, seval, gT, Tok.row]
   refine ⟨by kernel_rfl, ⟨by simp only [maxLen]; (try simp only [ll] at *); omega, by (try simp only [ll] at *); omega⟩, ?_⟩
   rw [tok1 (out ++ [(Tok.mk 2 qual 0), (Tok.mk 5 ⟨#[46]⟩ 0)]), len1 (out ++ [(Tok.mk 2 qual 0), (Tok.mk 5 ⟨#[46]⟩ 0)]) (Tok.mk 5 ⟨#[42]⟩ 0)]
   refine ⟨_, [], owE (l := out ++ [(Tok.mk 2 qual 0), (Tok.mk 5 ⟨#[46]⟩ 0)] ++ [(Tok.mk 5 ⟨#[42]⟩ 0)]) (by simp [gT, dtT, stT, List.append_assoc]), endOk ?_⟩
   simp only [tt, seval]
  ·have hq : qual = ⟨#[]⟩ := by simpa using hq
   rw [qualL, if_pos hq] at hroom ⊢
   simp only [ll] at hroom
   simp only [tt, seval]
   refine cZ (l10Sign_d ⟨#[42]⟩) (by decide) ?_ ?_ <;> simp only [tt, seval, gT, Tok.row]
   refine ⟨by kernel_rfl, ⟨by simp only [maxLen]; (try simp only [ll] at *); omega, by (try simp only [ll] at *); omega⟩, ?_⟩
   rw [tok1 (out), len1 (out) (Tok.mk 5 ⟨#[42]⟩ 0)]
   refine ⟨_, [], owE (l := out ++ [(Tok.mk 5 ⟨#[42]⟩ 0)]) (by simp [gT, stT]), endOk ?_⟩
   simp only [tt, seval]
set_option maxHeartbeats 1000000 in
theorem l10Where_d (full : Bool) (l : List Expr) (g : Expr → List Tok) (hll : l.length ≤ 1048576) (hg : ∀ x ∈ l, TkC full x (g x)) (out : List Tok) (hroom : out.length + (whL g l).length ≤ 1000000) : Cl Tryz.prog 152 [.c (.ow 61 (out).length ((out).flatMap Tok.row) none), .c (.sl l.length (l.flatMap Expr.row) none), vb full] [] fun r _ => r = .c (.ow 61 (out ++ whL g l).length ((out ++ whL g l).flatMap Tok.row) none) := by
 refine cl_of_d follows_mixed false Tryz.func152 rfl (by kernel_rfl) ?_
 simp only [Tryz.f152, tt, seval]
 refine fun _ => ?_
 rcases hL : l with _ | ⟨e, r⟩
 ·rw [hL] at hroom
  simp only [tt, seval]
  refine ⟨_, [], owE (l := out) (by exact (List.append_nil _).symm), endOk ?_⟩
  simp only [tt, seval]
 ·rw [← hL]
  have hlen : l.length = r.length + 1 := by rw [hL]; rfl
  have hw : whL g l = kT 6 :: g e := by rw [hL]; rfl
  have hx : ∀ out : List Tok, out.length + (g e).length ≤ 1000000 → Cl Tryz.prog 37 [.c (.ow 61 (out).length ((out).flatMap Tok.row) none), .ag (csOf e.row), vb full] [] fun r _ => r = .c (.ow 61 (out ++ g e).length ((out ++ g e).flatMap Tok.row) none) := hg e (by rw [hL]; simp)
  have hpos : ((0 : Int) < l.length) = True := eq_true (by omega)
  rw [hw] at hroom ⊢
  clear hw
  generalize g e = le at *
  simp only [ll] at hroom
  simp only [tt, seval, show (¬ (l.length : Int) = 0) from by omega]
  apply dDrawn_j1 6
  case h1 =>
   refine dDrawn.intro [19] (.take 0 (.take 4 (.take 5 (.take 7 (.br 1 (.br 2 (.br 3 (.take 6 (.br 8 (.take 9 .done) .nobr)) (.br 6 (.br 3 (.br 8 (.take 9 .done) .nobr) .nobr) .nobr)) (.br 6 (.br 2 (.br 3 (.br 8 (.take 9 .done) .nobr) .nobr) .nobr) .nobr)) (.br 6 (.br 1 (.br 2 (.br 3 (.br 8 (.take 9 .done) .nobr) .nobr) .nobr) .nobr) .nobr)))))) (by kernel_rfl) ?_
   simp only [tt, seval]
   all_goals try simp only [tt, seval, idxH hL Expr.row_len, hpos, takeD_row (Expr.row_len e), Expr.row_len]
   all_goals repeat' first | refine brC ?_ ?_ | refine brC2 ?_ ?_
   all_goals
    refine cZ (l10Key_d 6 (by omega) (by omega)) (by decide) ?_ ?_ <;> simp only [tt, seval, kT, Tok.row, takeD_row (Expr.row_len e), Expr.row_len]
   all_goals repeat' first | refine brA ?_ ?_ | refine brA2 ?_ ?_ | refine brA3 ?_ ?_
   all_goals
    refine ⟨by kernel_rfl, ⟨by simp only [maxLen]; (try simp only [ll] at *); omega, by (try simp only [ll] at *); omega⟩, ?_⟩
    rw [tok1 (out), len1 (out) (Tok.mk 1 (kw 6) 0)]
   all_goals repeat' first | refine brC ?_ ?_ | refine brC2 ?_ ?_
   all_goals
    refine cZ (hx (out ++ [(Tok.mk 1 (kw 6) 0)]) (by (try simp only [ll] at *); omega)) (by decide) ?_ ?_
    ·simp only [tt, seval]
     decide
    simp only [tt, seval]
   all_goals exact ⟨rfl, rfl, rfl⟩
  case h2 =>
   intro f' hj0
   simp only [tt, seval, hj0]
   refine ⟨_, [], owE (l := out ++ [(Tok.mk 1 (kw 6) 0)] ++ le) (by simp [kT, List.append_assoc]), endOk ?_⟩
   simp only [tt, seval]
set_option maxHeartbeats 4000000 in
theorem l10From_d (full : Bool) (from_ : List Source) (g : Expr → List Tok) (hsz : szSources from_ ≤ 1048576) (hg : ∀ s ∈ from_, ∀ x ∈ s.on, TkC full x (g x)) (out : List Tok) (hroom : out.length + (seqN (srcF g from_) from_.length).length ≤ 1000000) : Cl Tryz.prog 151 [.c (.ow 61 (out).length ((out).flatMap Tok.row) none), .c (.sl from_.length (from_.flatMap Source.row) none), vb full] [] fun r _ => r = .c (.ow 61 (out ++ seqN (srcF g from_) from_.length).length ((out ++ seqN (srcF g from_) from_.length).flatMap Tok.row) none) := by
 have hfl : from_.length ≤ 1048576 := by rw [szSources_eq] at hsz; omega
 refine cl_of_d follows_mixed false Tryz.func151 rfl (by kernel_rfl) ?_
 simp only [Tryz.f151, tt, seval]
 refine dLoop.gh [.ren 9500 10078] ⟨by decide, by decide, ?_⟩
 refine dLoop0.introR (fun f L p => ∃ (i : Nat) (es : List Tok), f 7 = vi i ∧ f 0 = .c (.s 10078 es.length) ∧ i ≤ from_.length ∧ es = out ++ seqN (srcF g from_) i ∧ L = [(10078, .arr 61 (es).length ((es).flatMap Tok.row) none)] ∧ p = none) (fun f _ _ => (from_.length - ixS (f 7)).toNat) [(10078, .arr 61 (out).length ((out).flatMap Tok.row) none)] none ⟨SubO.cons rfl (SubO.nil _), PoSub.none _, ?_⟩ ?_
 ·simp only [tt, seval]
  exact ⟨0, out, rfl, rfl, by omega, (List.append_nil _).symm, rfl⟩
 ·rintro g' L p ⟨i, es, h7, h0, hi, hes0, rfl, rfl⟩
  simp only [tt, seval] at h7 h0
  simp only [tt, seval, h7, h0, Int.ofNat_lt]
  refine fun _ => And.intro (fun hlt => ?_) (fun hge => ?_)
  ·have hlt : i < from_.length := by omega
   have hst := seqN_succ (srcF g from_) i
   have hlt2 := seqN_lt (srcF g from_) hlt
   have hel : es.length = out.length + (seqN (srcF g from_) i).length := by rw [hes0, List.length_append]
   obtain ⟨it, hit⟩ : ∃ it, it = from_[i] := ⟨_, rfl⟩
   have hx : from_[i]? = some it := by rw [hit]; exact List.getElem?_eq_getElem hlt
   have hss : srcF g from_ i = srcT g i it := by rw [srcF, atL_get hlt, hit]
   rw [hss] at hst hlt2
   have hgi := hg it (by rw [hit]; exact List.getElem_mem hlt)
   have hso := mem_sz szSource (show it ∈ from_ by rw [hit]; exact List.getElem_mem hlt)
   rw [szSources_eq] at hsz
   obtain ⟨table, as_, on⟩ := it
   rw [szSource_mk, szExprs_eq] at hso
   have hon : on.length ≤ 1048576 := by omega
   have hol : (on.length ≤ 9223372036854775807) = True := eq_true (by omega)
   have i0 : ((0 : Int) ≤ (i : Int)) = True := eq_true (by omega)
   have iL : ((i : Int) < (from_.length : Int)) = True := eq_true (by omega)
   rcases hL : on with _ | ⟨e, r⟩
   ·have hle : onL g on = [] := by rw [hL]; rfl
    have hlen : on.length = 0 := by rw [hL]; rfl
    have op : ¬ (0 : Int) < on.length := by omega
    have oz : (on.length : Int) = 0 := by omega
    by_cases hi0 : i = 0
    ·have ip : ¬ (0 : Int) < i := by omega
     have hsrc : srcT g i (Source.mk table as_ on) = [] ++ (nT table :: (asL as_ ++ [])) := by
      show (if 0 < i then (if 0 < on.length then [kT 4] else [cmT]) else []) ++ (nT table :: (asL as_ ++ onL g on)) = _
      rw [hle]
      rw [if_neg (by omega)]
     rw [hsrc] at hlt2
     simp only [ll] at hlt2
     simp only [tt, seval, h7, h0, decide_eq_false ip]
     apply dDrawn_j4 0 7 1 2
     case h1 =>
      refine dDrawn.intro [58] (.take 0 (.take 1 (.take 2 (.take 3 (.take 4 (.take 5 (.take 9 (.take 10 (.take 11 (.take 12 (.br 6 (.br 7 (.br 8 (.take 13 (.br 14 (.take 15 .done) .nobr)) (.br 13 (.br 8 (.br 14 (.take 15 .done) .nobr) .nobr) .nobr)) (.br 13 (.br 7 (.br 8 (.br 14 (.take 15 .done) .nobr) .nobr) .nobr) .nobr)) (.br 13 (.br 6 (.br 7 (.br 8 (.br 14 (.take 15 .done) .nobr) .nobr) .nobr) .nobr) .nobr)))))))))))) (by kernel_rfl) ?_
      simp only [tt, seval]
      all_goals try simp only [tt, seval, h7, h0, idxAt hx Source.row_len, i0, iL, Source.row_mk]
      all_goals repeat' first | refine brC ?_ ?_ | refine brC2 ?_ ?_
      all_goals
       refine cZ (l10Name_d table) (by decide) ?_ ?_ <;> simp only [tt, seval, nT, Tok.row]
      all_goals repeat' first | refine brA ?_ ?_ | refine brA2 ?_ ?_ | refine brA3 ?_ ?_
      all_goals
       refine ⟨by kernel_rfl, ⟨by simp only [maxLen]; (try simp only [ll] at *); omega, by (try simp only [ll] at *); omega⟩, ?_⟩
       rw [tok1 (es), len1 (es) (Tok.mk 2 table 0)]
      all_goals repeat' first | refine brC ?_ ?_ | refine brC2 ?_ ?_
      all_goals
       refine cZ (l10As_d (es ++ [(Tok.mk 2 table 0)]) as_ (by (try simp only [ll] at *); omega)) (by decide) ?_ ?_
       ·simp only [tt, seval]
        decide
       simp only [tt, seval, h7]
      all_goals exact ⟨rfl, rfl, rfl, rfl, rfl, rfl⟩
     case h2 =>
      intro f' hj0 hj1 hj2 hj3
      simp only [tt, seval, hj2, hj1, idxAt hx Source.row_len, i0, iL, hol, Source.row_mk, decide_eq_false op]
      try rw [wrS i (by omega)]
      refine ⟨[.ren 10058 10078], by decide, by decide, ?_⟩
      simp only [tt, seval, ghs, hj0]
      exact ⟨[(10078, .arr 61 (es ++ [(Tok.mk 2 table 0)] ++ asL as_).length ((es ++ [(Tok.mk 2 table 0)] ++ asL as_).flatMap Tok.row) none)], none, SubO.cons rfl (SubO.nil _), PoSub.none _, ⟨i + 1, es ++ [(Tok.mk 2 table 0)] ++ asL as_, rfl, rfl, by omega, by rw [hst, hes0, hsrc]; simp [nT, List.append_assoc], rfl, rfl⟩, by simp only [ixS]; omega⟩
    ·have ip : (0 : Int) < i := by omega
     have hsrc : srcT g i (Source.mk table as_ on) = [cmT] ++ (nT table :: (asL as_ ++ [])) := by
      show (if 0 < i then (if 0 < on.length then [kT 4] else [cmT]) else []) ++ (nT table :: (asL as_ ++ onL g on)) = _
      rw [hle]
      rw [if_pos (by omega)]; rw [if_neg (by omega)]
     rw [hsrc] at hlt2
     simp only [ll] at hlt2
     simp only [tt, seval, h7, h0, idxAt hx Source.row_len, i0, iL, hol, Source.row_mk, decide_eq_true ip, decide_eq_false op, decide_eq_true oz]
     refine cZ (l10Sign_d ⟨#[44]⟩) (by decide) ?_ ?_ <;> simp only [tt, seval, gT, Tok.row]
     refine ⟨by kernel_rfl, ⟨by simp only [maxLen]; (try simp only [ll] at *); omega, by (try simp only [ll] at *); omega⟩, ?_⟩
     rw [tok1 (es), len1 (es) (Tok.mk 5 ⟨#[44]⟩ 0)]
     apply dDrawn_j4 0 7 1 2
     case h1 =>
      refine dDrawn.intro [58] (.take 0 (.take 1 (.take 2 (.take 3 (.take 4 (.take 5 (.take 9 (.take 10 (.take 11 (.take 12 (.br 6 (.br 7 (.br 8 (.take 13 (.br 14 (.take 15 .done) .nobr)) (.br 13 (.br 8 (.br 14 (.take 15 .done) .nobr) .nobr) .nobr)) (.br 13 (.br 7 (.br 8 (.br 14 (.take 15 .done) .nobr) .nobr) .nobr) .nobr)) (.br 13 (.br 6 (.br 7 (.br 8 (.br 14 (.take 15 .done) .nobr) .nobr) .nobr) .nobr) .nobr)))))))))))) (by kernel_rfl) ?_
      simp only [tt, seval]
      all_goals try simp only [tt, seval, h7, idxAt hx Source.row_len, i0, iL, Source.row_mk]
      all_goals repeat' first | refine brC ?_ ?_ | refine brC2 ?_ ?_
      all_goals
       refine cZ (l10Name_d table) (by decide) ?_ ?_ <;> simp only [tt, seval, nT, Tok.row]
      all_goals repeat' first | refine brA ?_ ?_ | refine brA2 ?_ ?_ | refine brA3 ?_ ?_
      all_goals
       refine ⟨by kernel_rfl, ⟨by simp only [maxLen]; (try simp only [ll] at *); omega, by (try simp only [ll] at *); omega⟩, ?_⟩
       rw [tok1 (es ++ [(Tok.mk 5 ⟨#[44]⟩ 0)]), len1 (es ++ [(Tok.mk 5 ⟨#[44]⟩ 0)]) (Tok.mk 2 table 0)]
      all_goals repeat' first | refine brC ?_ ?_ | refine brC2 ?_ ?_
      all_goals
       refine cZ (l10As_d (es ++ [(Tok.mk 5 ⟨#[44]⟩ 0)] ++ [(Tok.mk 2 table 0)]) as_ (by (try simp only [ll] at *); omega)) (by decide) ?_ ?_
       ·simp only [tt, seval]
        decide
       simp only [tt, seval, h7]
      all_goals exact ⟨rfl, rfl, rfl, rfl, rfl, rfl⟩
     case h2 =>
      intro f' hj0 hj1 hj2 hj3
      simp only [tt, seval, hj2, hj1, idxAt hx Source.row_len, i0, iL, hol, Source.row_mk, decide_eq_false op]
      try rw [wrS i (by omega)]
      refine ⟨[.ren 10058 10078], by decide, by decide, ?_⟩
      simp only [tt, seval, ghs, hj0]
      exact ⟨[(10078, .arr 61 (es ++ [(Tok.mk 5 ⟨#[44]⟩ 0)] ++ [(Tok.mk 2 table 0)] ++ asL as_).length ((es ++ [(Tok.mk 5 ⟨#[44]⟩ 0)] ++ [(Tok.mk 2 table 0)] ++ asL as_).flatMap Tok.row) none)], none, SubO.cons rfl (SubO.nil _), PoSub.none _, ⟨i + 1, es ++ [(Tok.mk 5 ⟨#[44]⟩ 0)] ++ [(Tok.mk 2 table 0)] ++ asL as_, rfl, rfl, by omega, by rw [hst, hes0, hsrc]; simp [cmT, gT, nT, List.append_assoc], rfl, rfl⟩, by simp only [ixS]; omega⟩
   ·have hle0 : onL g on = kT 5 :: g e := by rw [hL]; rfl
    have hlen : on.length = r.length + 1 := by rw [hL]; rfl
    have hxe := hgi e (by show e ∈ on; rw [hL]; simp)
    obtain ⟨le, hle1⟩ : ∃ le, le = g e := ⟨_, rfl⟩
    have hle : onL g on = kT 5 :: le := by rw [hle0, hle1]
    rw [← hle1] at hxe
    have hxe : ∀ out : List Tok, out.length + le.length ≤ 1000000 → Cl Tryz.prog 37 [.c (.ow 61 (out).length ((out).flatMap Tok.row) none), .ag (csOf e.row), vb full] [] fun r _ => r = .c (.ow 61 (out ++ le).length ((out ++ le).flatMap Tok.row) none) := hxe
    have hpos : ((0 : Int) < on.length) = True := eq_true (by omega)
    have op : (0 : Int) < on.length := by omega
    have oz : ¬ (on.length : Int) = 0 := by omega
    by_cases hi0 : i = 0
    ·have ip : ¬ (0 : Int) < i := by omega
     have hsrc : srcT g i (Source.mk table as_ on) = [] ++ (nT table :: (asL as_ ++ (kT 5 :: le))) := by
      show (if 0 < i then (if 0 < on.length then [kT 4] else [cmT]) else []) ++ (nT table :: (asL as_ ++ onL g on)) = _
      rw [hle]
      rw [if_neg (by omega)]
     rw [hsrc] at hlt2
     simp only [ll] at hlt2
     simp only [tt, seval, h7, h0, decide_eq_false ip]
     apply dDrawn_j4 0 7 1 2
     case h1 =>
      refine dDrawn.intro [58] (.take 0 (.take 1 (.take 2 (.take 3 (.take 4 (.take 5 (.take 9 (.take 10 (.take 11 (.take 12 (.br 6 (.br 7 (.br 8 (.take 13 (.br 14 (.take 15 .done) .nobr)) (.br 13 (.br 8 (.br 14 (.take 15 .done) .nobr) .nobr) .nobr)) (.br 13 (.br 7 (.br 8 (.br 14 (.take 15 .done) .nobr) .nobr) .nobr) .nobr)) (.br 13 (.br 6 (.br 7 (.br 8 (.br 14 (.take 15 .done) .nobr) .nobr) .nobr) .nobr) .nobr)))))))))))) (by kernel_rfl) ?_
      simp only [tt, seval]
      all_goals try simp only [tt, seval, h7, h0, idxAt hx Source.row_len, i0, iL, Source.row_mk]
      all_goals repeat' first | refine brC ?_ ?_ | refine brC2 ?_ ?_
      all_goals
       refine cZ (l10Name_d table) (by decide) ?_ ?_ <;> simp only [tt, seval, nT, Tok.row]
      all_goals repeat' first | refine brA ?_ ?_ | refine brA2 ?_ ?_ | refine brA3 ?_ ?_
      all_goals
       refine ⟨by kernel_rfl, ⟨by simp only [maxLen]; (try simp only [ll] at *); omega, by (try simp only [ll] at *); omega⟩, ?_⟩
       rw [tok1 (es), len1 (es) (Tok.mk 2 table 0)]
      all_goals repeat' first | refine brC ?_ ?_ | refine brC2 ?_ ?_
      all_goals
       refine cZ (l10As_d (es ++ [(Tok.mk 2 table 0)]) as_ (by (try simp only [ll] at *); omega)) (by decide) ?_ ?_
       ·simp only [tt, seval]
        decide
       simp only [tt, seval, h7]
      all_goals exact ⟨rfl, rfl, rfl, rfl, rfl, rfl⟩
     case h2 =>
      intro f' hj0 hj1 hj2 hj3
      simp only [tt, seval, hj2, hj1, idxAt hx Source.row_len, i0, iL, hol, Source.row_mk, decide_eq_true op]
      apply dDrawn_j4 0 7 1 2
      case h1 =>
       refine dDrawn.intro [78] (.take 0 (.take 4 (.take 5 (.take 6 (.take 7 (.take 11 (.br 1 (.br 2 (.br 3 (.take 8 (.take 9 (.take 10 (.br 12 (.take 13 .done) .nobr)))) (.br 8 (.take 9 (.br 3 (.take 10 (.br 12 (.take 13 .done) .nobr)) (.br 10 (.br 3 (.br 12 (.take 13 .done) .nobr) .nobr) .nobr))) .nobr)) (.br 8 (.take 9 (.br 2 (.br 3 (.take 10 (.br 12 (.take 13 .done) .nobr)) (.br 10 (.br 3 (.br 12 (.take 13 .done) .nobr) .nobr) .nobr)) (.br 10 (.br 2 (.br 3 (.br 12 (.take 13 .done) .nobr) .nobr) .nobr) .nobr))) .nobr)) (.br 8 (.take 9 (.br 1 (.br 2 (.br 3 (.take 10 (.br 12 (.take 13 .done) .nobr)) (.br 10 (.br 3 (.br 12 (.take 13 .done) .nobr) .nobr) .nobr)) (.br 10 (.br 2 (.br 3 (.br 12 (.take 13 .done) .nobr) .nobr) .nobr) .nobr)) (.br 10 (.br 1 (.br 2 (.br 3 (.br 12 (.take 13 .done) .nobr) .nobr) .nobr) .nobr) .nobr))) .nobr)))))))) (by kernel_rfl) ?_
       simp only [tt, seval]
       all_goals try simp only [tt, seval, hj0, hj1, hj2, hj3, idxAt hx Source.row_len, i0, iL, Source.row_mk, hpos, idxH hL Expr.row_len, takeD_row (Expr.row_len e), Expr.row_len]
       all_goals repeat' first | refine brC ?_ ?_ | refine brC2 ?_ ?_
       all_goals
        refine cZ (l10Key_d 5 (by omega) (by omega)) (by decide) ?_ ?_ <;> simp only [tt, seval, kT, Tok.row, hpos, idxH hL Expr.row_len, takeD_row (Expr.row_len e), Expr.row_len]
       all_goals repeat' first | refine brA ?_ ?_ | refine brA2 ?_ ?_ | refine brA3 ?_ ?_
       all_goals
        refine ⟨by kernel_rfl, ⟨by simp only [maxLen]; (try simp only [ll] at *); omega, by (try simp only [ll] at *); omega⟩, ?_⟩
        rw [tok1 (es ++ [(Tok.mk 2 table 0)] ++ asL as_), len1 (es ++ [(Tok.mk 2 table 0)] ++ asL as_) (Tok.mk 1 (kw 5) 0)]
       all_goals repeat' first | refine brC ?_ ?_ | refine brC2 ?_ ?_
       all_goals
        refine cZ (hxe (es ++ [(Tok.mk 2 table 0)] ++ asL as_ ++ [(Tok.mk 1 (kw 5) 0)]) (by (try simp only [ll] at *); omega)) (by decide) ?_ ?_
        ·simp only [tt, seval]
         decide
        simp only [tt, seval, hj1, hj2, hj3]
       all_goals exact ⟨rfl, rfl, rfl, rfl, rfl, rfl⟩
      case h2 =>
       intro f' hj0 hj1 hj2 hj3
       simp only [tt, seval, hj1]
       try rw [wrS i (by omega)]
       refine ⟨[], ?_⟩
       simp only [tt, seval, ghs, hj0]
       exact ⟨[(10078, .arr 61 (es ++ [(Tok.mk 2 table 0)] ++ asL as_ ++ [(Tok.mk 1 (kw 5) 0)] ++ le).length ((es ++ [(Tok.mk 2 table 0)] ++ asL as_ ++ [(Tok.mk 1 (kw 5) 0)] ++ le).flatMap Tok.row) none)], none, SubO.cons rfl (SubO.nil _), PoSub.none _, ⟨i + 1, es ++ [(Tok.mk 2 table 0)] ++ asL as_ ++ [(Tok.mk 1 (kw 5) 0)] ++ le, rfl, rfl, by omega, by rw [hst, hes0, hsrc]; simp [kT, nT, List.append_assoc], rfl, rfl⟩, by simp only [ixS]; omega⟩
    ·have ip : (0 : Int) < i := by omega
     have hsrc : srcT g i (Source.mk table as_ on) = [kT 4] ++ (nT table :: (asL as_ ++ (kT 5 :: le))) := by
      show (if 0 < i then (if 0 < on.length then [kT 4] else [cmT]) else []) ++ (nT table :: (asL as_ ++ onL g on)) = _
      rw [hle]
      rw [if_pos (by omega)]; rw [if_pos (by omega)]
     rw [hsrc] at hlt2
     simp only [ll] at hlt2
     simp only [tt, seval, h7, h0, idxAt hx Source.row_len, i0, iL, hol, Source.row_mk, decide_eq_true ip, decide_eq_true op, decide_eq_false oz]
     refine cZ (l10Key_d 4 (by omega) (by omega)) (by decide) ?_ ?_ <;> simp only [tt, seval, kT, Tok.row, h7, idxAt hx Source.row_len, i0, iL, hol, Source.row_mk, decide_eq_true ip, decide_eq_false oz]
     refine ⟨by kernel_rfl, ⟨by simp only [maxLen]; (try simp only [ll] at *); omega, by (try simp only [ll] at *); omega⟩, ?_⟩
     rw [tok1 (es), len1 (es) (Tok.mk 1 (kw 4) 0)]
     apply dDrawn_j4 0 7 1 2
     case h1 =>
      refine dDrawn.intro [58] (.take 0 (.take 1 (.take 2 (.take 3 (.take 4 (.take 5 (.take 9 (.take 10 (.take 11 (.take 12 (.br 6 (.br 7 (.br 8 (.take 13 (.br 14 (.take 15 .done) .nobr)) (.br 13 (.br 8 (.br 14 (.take 15 .done) .nobr) .nobr) .nobr)) (.br 13 (.br 7 (.br 8 (.br 14 (.take 15 .done) .nobr) .nobr) .nobr) .nobr)) (.br 13 (.br 6 (.br 7 (.br 8 (.br 14 (.take 15 .done) .nobr) .nobr) .nobr) .nobr) .nobr)))))))))))) (by kernel_rfl) ?_
      simp only [tt, seval]
      all_goals try simp only [tt, seval, h7, idxAt hx Source.row_len, i0, iL, Source.row_mk]
      all_goals repeat' first | refine brC ?_ ?_ | refine brC2 ?_ ?_
      all_goals
       refine cZ (l10Name_d table) (by decide) ?_ ?_ <;> simp only [tt, seval, nT, Tok.row]
      all_goals repeat' first | refine brA ?_ ?_ | refine brA2 ?_ ?_ | refine brA3 ?_ ?_
      all_goals
       refine ⟨by kernel_rfl, ⟨by simp only [maxLen]; (try simp only [ll] at *); omega, by (try simp only [ll] at *); omega⟩, ?_⟩
       rw [tok1 (es ++ [(Tok.mk 1 (kw 4) 0)]), len1 (es ++ [(Tok.mk 1 (kw 4) 0)]) (Tok.mk 2 table 0)]
      all_goals repeat' first | refine brC ?_ ?_ | refine brC2 ?_ ?_
      all_goals
       refine cZ (l10As_d (es ++ [(Tok.mk 1 (kw 4) 0)] ++ [(Tok.mk 2 table 0)]) as_ (by (try simp only [ll] at *); omega)) (by decide) ?_ ?_
       ·simp only [tt, seval]
        decide
       simp only [tt, seval, h7]
      all_goals exact ⟨rfl, rfl, rfl, rfl, rfl, rfl⟩
     case h2 =>
      intro f' hj0 hj1 hj2 hj3
      simp only [tt, seval, hj2, hj1, idxAt hx Source.row_len, i0, iL, hol, Source.row_mk, decide_eq_true op]
      apply dDrawn_j4 0 7 1 2
      case h1 =>
       refine dDrawn.intro [78] (.take 0 (.take 4 (.take 5 (.take 6 (.take 7 (.take 11 (.br 1 (.br 2 (.br 3 (.take 8 (.take 9 (.take 10 (.br 12 (.take 13 .done) .nobr)))) (.br 8 (.take 9 (.br 3 (.take 10 (.br 12 (.take 13 .done) .nobr)) (.br 10 (.br 3 (.br 12 (.take 13 .done) .nobr) .nobr) .nobr))) .nobr)) (.br 8 (.take 9 (.br 2 (.br 3 (.take 10 (.br 12 (.take 13 .done) .nobr)) (.br 10 (.br 3 (.br 12 (.take 13 .done) .nobr) .nobr) .nobr)) (.br 10 (.br 2 (.br 3 (.br 12 (.take 13 .done) .nobr) .nobr) .nobr) .nobr))) .nobr)) (.br 8 (.take 9 (.br 1 (.br 2 (.br 3 (.take 10 (.br 12 (.take 13 .done) .nobr)) (.br 10 (.br 3 (.br 12 (.take 13 .done) .nobr) .nobr) .nobr)) (.br 10 (.br 2 (.br 3 (.br 12 (.take 13 .done) .nobr) .nobr) .nobr) .nobr)) (.br 10 (.br 1 (.br 2 (.br 3 (.br 12 (.take 13 .done) .nobr) .nobr) .nobr) .nobr) .nobr))) .nobr)))))))) (by kernel_rfl) ?_
       simp only [tt, seval]
       all_goals try simp only [tt, seval, hj0, hj1, hj2, hj3, idxAt hx Source.row_len, i0, iL, Source.row_mk, hpos, idxH hL Expr.row_len, takeD_row (Expr.row_len e), Expr.row_len]
       all_goals repeat' first | refine brC ?_ ?_ | refine brC2 ?_ ?_
       all_goals
        refine cZ (l10Key_d 5 (by omega) (by omega)) (by decide) ?_ ?_ <;> simp only [tt, seval, kT, Tok.row, hpos, idxH hL Expr.row_len, takeD_row (Expr.row_len e), Expr.row_len]
       all_goals repeat' first | refine brA ?_ ?_ | refine brA2 ?_ ?_ | refine brA3 ?_ ?_
       all_goals
        refine ⟨by kernel_rfl, ⟨by simp only [maxLen]; (try simp only [ll] at *); omega, by (try simp only [ll] at *); omega⟩, ?_⟩
        rw [tok1 (es ++ [(Tok.mk 1 (kw 4) 0)] ++ [(Tok.mk 2 table 0)] ++ asL as_), len1 (es ++ [(Tok.mk 1 (kw 4) 0)] ++ [(Tok.mk 2 table 0)] ++ asL as_) (Tok.mk 1 (kw 5) 0)]
       all_goals repeat' first | refine brC ?_ ?_ | refine brC2 ?_ ?_
       all_goals
        refine cZ (hxe (es ++ [(Tok.mk 1 (kw 4) 0)] ++ [(Tok.mk 2 table 0)] ++ asL as_ ++ [(Tok.mk 1 (kw 5) 0)]) (by (try simp only [ll] at *); omega)) (by decide) ?_ ?_
        ·simp only [tt, seval]
         decide
        simp only [tt, seval, hj1, hj2, hj3]
       all_goals exact ⟨rfl, rfl, rfl, rfl, rfl, rfl⟩
      case h2 =>
       intro f' hj0 hj1 hj2 hj3
       simp only [tt, seval, hj1]
       try rw [wrS i (by omega)]
       refine ⟨[], ?_⟩
       simp only [tt, seval, ghs, hj0]
       exact ⟨[(10078, .arr 61 (es ++ [(Tok.mk 1 (kw 4) 0)] ++ [(Tok.mk 2 table 0)] ++ asL as_ ++ [(Tok.mk 1 (kw 5) 0)] ++ le).length ((es ++ [(Tok.mk 1 (kw 4) 0)] ++ [(Tok.mk 2 table 0)] ++ asL as_ ++ [(Tok.mk 1 (kw 5) 0)] ++ le).flatMap Tok.row) none)], none, SubO.cons rfl (SubO.nil _), PoSub.none _, ⟨i + 1, es ++ [(Tok.mk 1 (kw 4) 0)] ++ [(Tok.mk 2 table 0)] ++ asL as_ ++ [(Tok.mk 1 (kw 5) 0)] ++ le, rfl, rfl, by omega, by rw [hst, hes0, hsrc]; simp [kT, nT, List.append_assoc], rfl, rfl⟩, by simp only [ixS]; omega⟩
  ·have hie : i = from_.length := by omega
   subst hie
   subst hes0
   refine ⟨_, [], owE (l := out ++ seqN (srcF g from_) from_.length) (by rfl), endOk ?_⟩
   simp only [tt, seval]
theorem key_row (e : Expr) (d : Bool) (r : List D) : (SortKey.mk e d).row ++ r = e.row ++ (bool d :: r) := by rw [SortKey.row_mk, List.append_assoc]; rfl
theorem drE (e : Expr) (r : List D) : List.drop 10 (e.row ++ r) = r := by
 have := List.drop_left (l₁ := e.row) (l₂ := r)
 rwa [Expr.row_len] at this
set_option maxHeartbeats 4000000 in
theorem l10Query_step (full : Bool) (gf : Expr → Bool) (g : Expr → List Tok) (q : Query) (hf : fmQ gf q = true) (hlim : q.lim ≤ 9223372036854775807) (hsz : szQuery q ≤ 1048576) (hg : ∀ x ∈ exprsQ q, TkC full x (g x)) : TkQ full q (quT g q) := by
 intro out hroom
 obtain ⟨distinct, items, from_, where_, order, limit⟩ := q
 obtain ⟨_, _, _, _, hl1, _, _, _⟩ := fq_parts hf
 have hlim : limit ≤ 9223372036854775807 := hlim
 rw [szQuery_mk, szItems_eq, szExprs_eq, szSortKeys_eq] at hsz
 have eq : exprsQ (.mk distinct items from_ where_ order limit) = exprsI items ++ from_.flatMap Source.on ++ where_ ++ order.map SortKey.e := rfl
 rw [eq] at hg
 have hgI : ∀ x ∈ items, x.star = false → TkC full x.e (g x.e) := fun x hx hs => hg _ (by
  simp only [List.mem_append, exprsI, List.mem_map, List.mem_filter]
  exact .inl (.inl (.inl ⟨_, ⟨hx, by rw [hs]; rfl⟩, rfl⟩)))
 have hgS : ∀ s ∈ from_, ∀ x ∈ s.on, TkC full x (g x) := fun s hs x hx => hg _ (by
  simp only [List.mem_append, List.mem_flatMap]
  exact .inl (.inl (.inr ⟨_, hs, hx⟩)))
 have hgW : ∀ x ∈ where_, TkC full x (g x) := fun x hx => hg _ (by simp [hx])
 have hgO : ∀ k ∈ order, TkC full k.e (g k.e) := fun k hk => hg _ (by
  simp only [List.mem_append, List.mem_map]
  exact .inr ⟨_, hk, rfl⟩)
 have hsf : szSources from_ ≤ 1048576 := by omega
 clear hf hg eq
 rw [Query.row_mk]
 obtain ⟨dl, hdl⟩ : ∃ dl, dl = (if distinct = true then [kT 2] else []) := ⟨_, rfl⟩
 have e : quT g (.mk distinct items from_ where_ order limit) = kT 1 :: (dl ++ (seqN (itemF g items) items.length ++ (kT 3 :: (seqN (srcF g from_) from_.length ++ (whL g where_ ++ (seqN (keyF g order) order.length ++ limL limit)))))) := by rw [hdl]; rfl
 rw [e] at hroom ⊢
 clear e
 simp only [ll] at hroom
 refine cl_of_d follows_mixed false Tryz.func93 rfl (by kernel_rfl) ?_
 simp only [Tryz.f93, tt, seval]
 refine cZ (l10Key_d 1 (by omega) (by omega)) (by decide) ?_ ?_ <;> simp only [tt, seval, kT, Tok.row]
 refine ⟨by kernel_rfl, ⟨by simp only [maxLen]; (try simp only [ll] at *); omega, by (try simp only [ll] at *); omega⟩, ?_⟩
 rw [tok1 (out), len1 (out) (Tok.mk 1 (kw 1) 0)]
 refine And.intro (fun hd => ?_) (fun hd => ?_)
 all_goals first
  | (have hd1 : dl = [(Tok.mk 1 (kw 2) 0)] := by rw [hdl, if_pos hd]; rfl
     have hd2 : dl.length = 1 := by rw [hd1]; rfl
     refine call0 (l10Key_d 2 (by omega) (by omega)) ?_ ?_ ?_
     ·decide
     ·simp only [tt, seval]
     rintro r rfl
     simp only [tt, seval, kT, Tok.row]
     refine ⟨by kernel_rfl, ⟨by simp only [maxLen]; (try simp only [ll] at *); omega, by (try simp only [ll] at *); omega⟩, ?_⟩
     rw [tok1 (out ++ [(Tok.mk 1 (kw 1) 0)]), len1 (out ++ [(Tok.mk 1 (kw 1) 0)]) (Tok.mk 1 (kw 2) 0)]
     rw [← hd1]
     refine dLoop.gh [.ren 18 10039] ⟨by decide, by decide, ?_⟩)
  | (have hd1 : dl = [] := by rw [hdl, hd]; rfl
     rw [show out ++ [(Tok.mk 1 (kw 1) 0)] = out ++ [(Tok.mk 1 (kw 1) 0)] ++ dl by rw [hd1, List.append_nil]]
     refine dLoop.gh [.ren 12 10039] ⟨by decide, by decide, ?_⟩)
 all_goals
  obtain ⟨L1, hL1⟩ : ∃ L1, L1 = out ++ [(Tok.mk 1 (kw 1) 0)] ++ dl := ⟨_, rfl⟩
  rw [← hL1]
  have hel1 : L1.length = out.length + 1 + dl.length := by rw [hL1]; simp only [ll]
  refine dLoop0.intro (fun f L p => ∃ (i : Nat) (es : List Tok), f 7 = vi i ∧ f 0 = .c (.s 10039 es.length) ∧ i ≤ items.length ∧ es = L1 ++ seqN (itemF g items) i ∧ L = [(10039, .arr 61 (es).length ((es).flatMap Tok.row) none), (4, .str [.v (.bool distinct), .sl items.length (items.flatMap Item.row) none, .sl from_.length (from_.flatMap Source.row) none, .sl where_.length (where_.flatMap Expr.row) none, .sl order.length (order.flatMap SortKey.row) none, .v (.int .i64 limit)])] ∧ p = none) (fun f _ _ => (items.length - ixS (f 7)).toNat) [(10039, .arr 61 (L1).length ((L1).flatMap Tok.row) none), (4, .str [.v (.bool distinct), .sl items.length (items.flatMap Item.row) none, .sl from_.length (from_.flatMap Source.row) none, .sl where_.length (where_.flatMap Expr.row) none, .sl order.length (order.flatMap SortKey.row) none, .v (.int .i64 limit)])] none ⟨SubO.cons rfl (SubO.cons rfl (SubO.nil _)), PoSub.none _, ?_⟩ ?_
  ·simp only [tt, seval]
   exact ⟨0, L1, rfl, rfl, by omega, (List.append_nil _).symm, rfl⟩
  rintro g' L p ⟨i, es, h7, h0, hi, hes0, rfl, rfl⟩
  simp only [tt, seval] at h7 h0
  simp only [tt, seval, h7, h0, Int.ofNat_lt]
  refine fun _ => And.intro (fun hlt => ?_) (fun hge => ?_)
  ·have hlt : i < items.length := by omega
   have hst := seqN_succ (itemF g items) i
   have hlt2 := seqN_lt (itemF g items) hlt
   have hel : es.length = L1.length + (seqN (itemF g items) i).length := by rw [hes0, List.length_append]
   obtain ⟨it, hit⟩ : ∃ it, it = items[i] := ⟨_, rfl⟩
   have hx : items[i]? = some it := by rw [hit]; exact List.getElem?_eq_getElem hlt
   have hit2 : itemF g items i = cmL i ++ itemT g it := by rw [itemF, atL_get hlt, hit]
   rw [hit2] at hlt2
   have hgi := hgI it (by rw [hit]; exact List.getElem_mem hlt)
   have i0 : ((0 : Int) ≤ (i : Int)) = True := eq_true (by omega)
   have iL : ((i : Int) < (items.length : Int)) = True := eq_true (by omega)
   have iT : (i < items.length) = True := eq_true hlt
   refine And.intro (fun hc => ?_) (fun hc => ?_)
   ·have hcl : cmL i = [(Tok.mk 5 ⟨#[44]⟩ 0)] := if_pos (by omega)
    rw [hcl] at hlt2 hit2
    simp only [ll] at hlt2
    refine cZ (l10Sign_d ⟨#[44]⟩) (by decide) ?_ ?_ <;> simp only [tt, seval, gT, iT, Tok.row, h7]
    refine ⟨by kernel_rfl, ⟨by simp only [maxLen]; (try simp only [ll] at *); omega, by (try simp only [ll] at *); omega⟩, ?_⟩
    rw [tok1 (es), len1 (es) (Tok.mk 5 ⟨#[44]⟩ 0)]
    simp only [tt, seval, idxAt hx Item.row_len, i0, iL, Item.tk, Item.row_len]
    refine cZ (l10Item_d full it g hgi (es ++ [(Tok.mk 5 ⟨#[44]⟩ 0)]) (by (try simp only [ll] at *); omega)) (by decide) ?_ ?_ <;> simp only [tt, seval, h7]
    try rw [wrS i (by omega)]
    exact ⟨[(10039, .arr 61 (es ++ [(Tok.mk 5 ⟨#[44]⟩ 0)] ++ itemT g it).length ((es ++ [(Tok.mk 5 ⟨#[44]⟩ 0)] ++ itemT g it).flatMap Tok.row) none), (4, .str [.v (.bool distinct), .sl items.length (items.flatMap Item.row) none, .sl from_.length (from_.flatMap Source.row) none, .sl where_.length (where_.flatMap Expr.row) none, .sl order.length (order.flatMap SortKey.row) none, .v (.int .i64 limit)])], none, SubO.cons rfl (SubO.cons rfl (SubO.nil _)), PoSub.none _, ⟨i + 1, es ++ [(Tok.mk 5 ⟨#[44]⟩ 0)] ++ itemT g it, rfl, rfl, by omega, by rw [hst, hes0, hit2]; simp [List.append_assoc], rfl, rfl⟩, by simp only [ixS]; omega⟩
   ·have hcl : cmL i = [] := if_neg (by omega)
    rw [hcl] at hlt2 hit2
    simp only [ll] at hlt2
    simp only [tt, seval, idxAt hx Item.row_len, i0, iT, Item.tk, Item.row_len]
    refine cZ (l10Item_d full it g hgi (es) (by (try simp only [ll] at *); omega)) (by decide) ?_ ?_ <;> simp only [tt, seval, h7]
    try rw [wrS i (by omega)]
    exact ⟨[(10039, .arr 61 (es ++ itemT g it).length ((es ++ itemT g it).flatMap Tok.row) none), (4, .str [.v (.bool distinct), .sl items.length (items.flatMap Item.row) none, .sl from_.length (from_.flatMap Source.row) none, .sl where_.length (where_.flatMap Expr.row) none, .sl order.length (order.flatMap SortKey.row) none, .v (.int .i64 limit)])], none, SubO.cons rfl (SubO.cons rfl (SubO.nil _)), PoSub.none _, ⟨i + 1, es ++ itemT g it, rfl, rfl, by omega, by rw [hst, hes0, hit2]; simp [List.append_assoc], rfl, rfl⟩, by simp only [ixS]; omega⟩
  have hie : i = items.length := by omega
  subst hie
  have hel2 : es.length = L1.length + (seqN (itemF g items) items.length).length := by rw [hes0, List.length_append]
  clear hi hge
  apply dDrawn_j3 0 4 2
  case h1 =>
   refine dDrawn.intro [47] (.take 0 (.take 4 (.take 6 (.br 1 (.br 2 (.br 3 (.take 5 (.br 7 (.take 8 .done) .nobr)) (.br 5 (.br 3 (.br 7 (.take 8 .done) .nobr) .nobr) .nobr)) (.br 5 (.br 2 (.br 3 (.br 7 (.take 8 .done) .nobr) .nobr) .nobr) .nobr)) (.br 5 (.br 1 (.br 2 (.br 3 (.br 7 (.take 8 .done) .nobr) .nobr) .nobr) .nobr) .nobr))))) (by kernel_rfl) ?_
   simp only [tt, seval]
   all_goals repeat' first | refine brC ?_ ?_ | refine brC2 ?_ ?_
   all_goals
    refine cZ (l10Key_d 3 (by omega) (by omega)) (by decide) ?_ ?_ <;> simp only [tt, seval, kT, Tok.row, h0]
   all_goals repeat' first | refine brA ?_ ?_ | refine brA2 ?_ ?_ | refine brA3 ?_ ?_
   all_goals
    refine ⟨by kernel_rfl, ⟨by simp only [maxLen]; (try simp only [ll] at *); omega, by (try simp only [ll] at *); omega⟩, ?_⟩
    rw [tok1 (es), len1 (es) (Tok.mk 1 (kw 3) 0)]
   all_goals repeat' first | refine brC ?_ ?_ | refine brC2 ?_ ?_
   all_goals
    refine cZ (l10From_d full from_ g hsf hgS (es ++ [(Tok.mk 1 (kw 3) 0)]) (by (try simp only [ll] at *); omega)) (by decide) ?_ ?_
    ·simp only [tt, seval]
     decide
    simp only [tt, seval]
   all_goals exact ⟨rfl, rfl, rfl, rfl, rfl⟩
  case h2 =>
   intro f' hj0 hj1 hj2
   simp only [tt, seval, hj0, hj1, hj2]
   refine cZ (l10Where_d full where_ g (by omega) hgW (es ++ [(Tok.mk 1 (kw 3) 0)] ++ seqN (srcF g from_) from_.length) (by (try simp only [ll] at *); omega)) (by decide) ?_ ?_ <;> simp only [tt, seval]
   obtain ⟨L5, hL5⟩ : ∃ L5, L5 = es ++ [(Tok.mk 1 (kw 3) 0)] ++ seqN (srcF g from_) from_.length ++ whL g where_ := ⟨_, rfl⟩
   have hel5 : L5.length = es.length + 1 + (seqN (srcF g from_) from_.length).length + (whL g where_).length := by rw [hL5]; simp only [ll]
   rw [← hL5]
   refine dLoop.gh [.ren 10052 10079] ⟨by decide, by decide, ?_⟩
   refine dLoop0.introR (fun f L p => ∃ (i : Nat) (es : List Tok), f 8 = vi i ∧ f 0 = .c (.s 10079 es.length) ∧ i ≤ order.length ∧ es = L5 ++ seqN (keyF g order) i ∧ L = [(10079, .arr 61 (es).length ((es).flatMap Tok.row) none), (4, .str [.v (.bool distinct), .sl items.length (items.flatMap Item.row) none, .sl from_.length (from_.flatMap Source.row) none, .sl where_.length (where_.flatMap Expr.row) none, .sl order.length (order.flatMap SortKey.row) none, .v (.int .i64 limit)])] ∧ p = none) (fun f _ _ => (order.length - ixS (f 8)).toNat) [(10079, .arr 61 (L5).length ((L5).flatMap Tok.row) none), (4, .str [.v (.bool distinct), .sl items.length (items.flatMap Item.row) none, .sl from_.length (from_.flatMap Source.row) none, .sl where_.length (where_.flatMap Expr.row) none, .sl order.length (order.flatMap SortKey.row) none, .v (.int .i64 limit)])] none ⟨SubO.cons rfl (SubO.cons rfl (SubO.nil _)), PoSub.none _, ?_⟩ ?_
   ·simp only [tt, seval]
    exact ⟨0, L5, rfl, rfl, by omega, (List.append_nil _).symm, rfl⟩
   rintro g' L p ⟨i, ez, h8, hz0, hi, hez0, rfl, rfl⟩
   simp only [tt, seval] at h8 hz0
   simp only [tt, seval, h8, hz0, hj1, Int.ofNat_lt]
   refine fun _ => And.intro (fun hlt => ?_) (fun hge => ?_)
   ·have hlt : i < order.length := by omega
    have hst := seqN_succ (keyF g order) i
    have hlt2 := seqN_lt (keyF g order) hlt
    have hel : ez.length = L5.length + (seqN (keyF g order) i).length := by rw [hez0, List.length_append]
    obtain ⟨it, hit⟩ : ∃ it, it = order[i] := ⟨_, rfl⟩
    have hx : order[i]? = some it := by rw [hit]; exact List.getElem?_eq_getElem hlt
    have hit2 : keyF g order i = (if i = 0 then [kT 7, kT 8] else [cmT]) ++ keyT g it := by rw [keyF, atL_get hlt, hit]
    have hge := hgO it (by rw [hit]; exact List.getElem_mem hlt)
    have i0 : ((0 : Int) ≤ (i : Int)) = True := eq_true (by omega)
    have iL : ((i : Int) < (order.length : Int)) = True := eq_true (by omega)
    obtain ⟨e, desc⟩ := it
    have hge : ∀ out : List Tok, out.length + (g e).length ≤ 1000000 → Cl Tryz.prog 37 [.c (.ow 61 (out).length ((out).flatMap Tok.row) none), .ag (csOf e.row), vb full] [] fun r _ => r = .c (.ow 61 (out ++ g e).length ((out ++ g e).flatMap Tok.row) none) := hge
    have hkt : keyT g (SortKey.mk e desc) = g e ++ (if desc = true then [kT 10] else []) := rfl
    rw [hkt] at hit2
    rw [hit2] at hlt2
    have hop : 0 ≤ (if desc = true then [kT 10] else []).length := Nat.zero_le _
    refine And.intro (fun hc => ?_) (fun hc => ?_)
    ·have hc : i = 0 := by omega
     rw [if_pos hc] at hlt2 hit2
     simp only [ll] at hlt2
     refine cZ (l10Key_d 7 (by omega) (by omega)) (by decide) ?_ ?_ <;> simp only [tt, seval, kT, Tok.row]
     refine cZ (l10Key_d 8 (by omega) (by omega)) (by decide) ?_ ?_ <;> simp only [tt, seval, kT, Tok.row, h8, hj1, hj2]
     refine ⟨by kernel_rfl, ⟨by simp only [maxLen]; (try simp only [ll] at *); omega, by (try simp only [ll] at *); omega⟩, ?_⟩
     rw [tok2 (ez), len2 (ez) (Tok.mk 1 (kw 7) 0) (Tok.mk 1 (kw 8) 0)]
     simp only [tt, seval, idxAt hx SortKey.row_len, i0, iL, key_row, Expr.tk, Expr.row_len]
     refine cZ (hge (ez ++ [(Tok.mk 1 (kw 7) 0), (Tok.mk 1 (kw 8) 0)]) (by (try simp only [ll] at *); omega)) (by decide) ?_ ?_ <;> simp only [tt, seval, h8, hj1, idxAt hx SortKey.row_len, i0, iL, key_row, drE]
     refine And.intro (fun hd => ?_) (fun hd => ?_)
     ·subst hd
      rw [if_pos rfl] at hlt2 hit2
      simp only [ll] at hlt2
      refine cZ (l10Key_d 10 (by omega) (by omega)) (by decide) ?_ ?_ <;> simp only [tt, seval, kT, Tok.row, h8]
      refine ⟨by kernel_rfl, ⟨by simp only [maxLen]; (try simp only [ll] at *); omega, by (try simp only [ll] at *); omega⟩, ?_⟩
      rw [tok1 (ez ++ [(Tok.mk 1 (kw 7) 0), (Tok.mk 1 (kw 8) 0)] ++ g e), len1 (ez ++ [(Tok.mk 1 (kw 7) 0), (Tok.mk 1 (kw 8) 0)] ++ g e) (Tok.mk 1 (kw 10) 0)]
      try rw [wrS i (by omega)]
      refine ⟨[.ren 89 10079], by decide, by decide, ?_⟩
      simp only [tt, seval, ghs]
      exact ⟨[(10079, .arr 61 (ez ++ [(Tok.mk 1 (kw 7) 0), (Tok.mk 1 (kw 8) 0)] ++ g e ++ [(Tok.mk 1 (kw 10) 0)]).length ((ez ++ [(Tok.mk 1 (kw 7) 0), (Tok.mk 1 (kw 8) 0)] ++ g e ++ [(Tok.mk 1 (kw 10) 0)]).flatMap Tok.row) none), (4, .str [.v (.bool distinct), .sl items.length (items.flatMap Item.row) none, .sl from_.length (from_.flatMap Source.row) none, .sl where_.length (where_.flatMap Expr.row) none, .sl order.length (order.flatMap SortKey.row) none, .v (.int .i64 limit)])], none, SubO.cons rfl (SubO.cons rfl (SubO.nil _)), PoSub.none _, ⟨i + 1, ez ++ [(Tok.mk 1 (kw 7) 0), (Tok.mk 1 (kw 8) 0)] ++ g e ++ [(Tok.mk 1 (kw 10) 0)], rfl, rfl, by omega, by rw [hst, hez0, hit2]; simp [kT, List.append_assoc], rfl, rfl⟩, by simp only [ixS]; omega⟩
     ·subst hd
      rw [if_neg Bool.false_ne_true] at hlt2 hit2
      try rw [wrS i (by omega)]
      refine ⟨[], ?_⟩
      simp only [tt, seval, ghs]
      exact ⟨[(10079, .arr 61 (ez ++ [(Tok.mk 1 (kw 7) 0), (Tok.mk 1 (kw 8) 0)] ++ g e).length ((ez ++ [(Tok.mk 1 (kw 7) 0), (Tok.mk 1 (kw 8) 0)] ++ g e).flatMap Tok.row) none), (4, .str [.v (.bool distinct), .sl items.length (items.flatMap Item.row) none, .sl from_.length (from_.flatMap Source.row) none, .sl where_.length (where_.flatMap Expr.row) none, .sl order.length (order.flatMap SortKey.row) none, .v (.int .i64 limit)])], none, SubO.cons rfl (SubO.cons rfl (SubO.nil _)), PoSub.none _, ⟨i + 1, ez ++ [(Tok.mk 1 (kw 7) 0), (Tok.mk 1 (kw 8) 0)] ++ g e, rfl, rfl, by omega, by rw [hst, hez0, hit2]; simp [kT, List.append_assoc], rfl, rfl⟩, by simp only [ixS]; omega⟩
    ·have hc : ¬ i = 0 := by omega
     rw [if_neg hc] at hlt2 hit2
     simp only [ll] at hlt2
     refine cZ (l10Sign_d ⟨#[44]⟩) (by decide) ?_ ?_ <;> simp only [tt, seval, gT, Tok.row, h8, hj1, hj2]
     refine ⟨by kernel_rfl, ⟨by simp only [maxLen]; (try simp only [ll] at *); omega, by (try simp only [ll] at *); omega⟩, ?_⟩
     rw [tok1 (ez), len1 (ez) (Tok.mk 5 ⟨#[44]⟩ 0)]
     simp only [tt, seval, idxAt hx SortKey.row_len, i0, iL, key_row, Expr.tk, Expr.row_len]
     refine cZ (hge (ez ++ [(Tok.mk 5 ⟨#[44]⟩ 0)]) (by (try simp only [ll] at *); omega)) (by decide) ?_ ?_ <;> simp only [tt, seval, h8, hj1, idxAt hx SortKey.row_len, i0, iL, key_row, drE]
     refine And.intro (fun hd => ?_) (fun hd => ?_)
     ·subst hd
      rw [if_pos rfl] at hlt2 hit2
      simp only [ll] at hlt2
      refine cZ (l10Key_d 10 (by omega) (by omega)) (by decide) ?_ ?_ <;> simp only [tt, seval, kT, Tok.row, h8]
      refine ⟨by kernel_rfl, ⟨by simp only [maxLen]; (try simp only [ll] at *); omega, by (try simp only [ll] at *); omega⟩, ?_⟩
      rw [tok1 (ez ++ [(Tok.mk 5 ⟨#[44]⟩ 0)] ++ g e), len1 (ez ++ [(Tok.mk 5 ⟨#[44]⟩ 0)] ++ g e) (Tok.mk 1 (kw 10) 0)]
      try rw [wrS i (by omega)]
      refine ⟨[.ren 89 10079], by decide, by decide, ?_⟩
      simp only [tt, seval, ghs]
      exact ⟨[(10079, .arr 61 (ez ++ [(Tok.mk 5 ⟨#[44]⟩ 0)] ++ g e ++ [(Tok.mk 1 (kw 10) 0)]).length ((ez ++ [(Tok.mk 5 ⟨#[44]⟩ 0)] ++ g e ++ [(Tok.mk 1 (kw 10) 0)]).flatMap Tok.row) none), (4, .str [.v (.bool distinct), .sl items.length (items.flatMap Item.row) none, .sl from_.length (from_.flatMap Source.row) none, .sl where_.length (where_.flatMap Expr.row) none, .sl order.length (order.flatMap SortKey.row) none, .v (.int .i64 limit)])], none, SubO.cons rfl (SubO.cons rfl (SubO.nil _)), PoSub.none _, ⟨i + 1, ez ++ [(Tok.mk 5 ⟨#[44]⟩ 0)] ++ g e ++ [(Tok.mk 1 (kw 10) 0)], rfl, rfl, by omega, by rw [hst, hez0, hit2]; simp [cmT, gT, kT, List.append_assoc], rfl, rfl⟩, by simp only [ixS]; omega⟩
     ·subst hd
      rw [if_neg Bool.false_ne_true] at hlt2 hit2
      try rw [wrS i (by omega)]
      refine ⟨[], ?_⟩
      simp only [tt, seval, ghs]
      exact ⟨[(10079, .arr 61 (ez ++ [(Tok.mk 5 ⟨#[44]⟩ 0)] ++ g e).length ((ez ++ [(Tok.mk 5 ⟨#[44]⟩ 0)] ++ g e).flatMap Tok.row) none), (4, .str [.v (.bool distinct), .sl items.length (items.flatMap Item.row) none, .sl from_.length (from_.flatMap Source.row) none, .sl where_.length (where_.flatMap Expr.row) none, .sl order.length (order.flatMap SortKey.row) none, .v (.int .i64 limit)])], none, SubO.cons rfl (SubO.cons rfl (SubO.nil _)), PoSub.none _, ⟨i + 1, ez ++ [(Tok.mk 5 ⟨#[44]⟩ 0)] ++ g e, rfl, rfl, by omega, by rw [hst, hez0, hit2]; simp [cmT, gT, List.append_assoc], rfl, rfl⟩, by simp only [ixS]; omega⟩
   have hie : i = order.length := by omega
   subst hie
   have hel6 : ez.length = L5.length + (seqN (keyF g order) order.length).length := by rw [hez0, List.length_append]
   refine And.intro (fun hlm => ?_) (fun hlm => ?_)
   ·rw [limL, if_pos hlm] at hroom ⊢
    simp only [ll] at hroom
    apply dDrawn_j1 0
    case h1 =>
     refine dDrawn.intro [] (pln [0, 4, 6, 3, 9, 10, 13, 15, 16]) (by kernel_rfl) ?_
     simp only [tt, seval]
     all_goals try simp only [tt, seval, hz0, hj1]
     all_goals repeat' first | refine brC ?_ ?_ | refine brC2 ?_ ?_
     all_goals
      refine cZ (l10Key_d 11 (by omega) (by omega)) (by decide) ?_ ?_ <;> simp only [tt, seval, kT, Tok.row]
     all_goals repeat' first | refine brC ?_ ?_ | refine brC2 ?_ ?_
     all_goals
      refine cZ (Digits_d limit (by omega) hlim) (by decide) ?_ ?_ <;> simp only [tt, seval]
     all_goals repeat' first | refine brA ?_ ?_ | refine brA2 ?_ ?_ | refine brA3 ?_ ?_
     all_goals
      refine ⟨by kernel_rfl, ⟨by simp only [maxLen]; (try simp only [ll] at *); omega, by (try simp only [ll] at *); omega⟩, ?_⟩
      rw [tok2 (ez), len2 (ez) (Tok.mk 1 (kw 11) 0) (Tok.mk 3 (itoaB limit) 0)]
     all_goals exact ⟨rfl, rfl, rfl⟩
    case h2 =>
     intro f' hk0
     simp only [tt, seval, hk0]
     refine ⟨_, [], owE (l := ez ++ [(Tok.mk 1 (kw 11) 0), (Tok.mk 3 (itoaB limit) 0)]) (by rw [hez0, hL5, hes0, hL1]; simp [kT, iT, List.append_assoc]), endOk ?_⟩
     simp only [tt, seval]
   ·rw [limL, if_neg hlm] at hroom ⊢
    simp only [ll] at hroom
    simp only [tt, seval]
    refine ⟨_, [], owE (l := ez) (by rw [hez0, hL5, hes0, hL1]; simp [List.append_assoc]), endOk ?_⟩
    simp only [tt, seval]
theorem l10Expr_d (full : Bool) (e : Expr) : fmE e = true → Rg e → szExpr e ≤ 1048576 → TkC full e (tkE full e) := by
 refine foldE3_ind (F1 := fmF) (F2 := ndF) (F3 := exT full) (P := fun e f n t => f = true → Rg e → szExpr e ≤ 1048576 → TkC full e t) (fun e gf gn g hg hf hr hsz => ?_) e
 have hb : ∀ x, below x e → gf x = true → TkC full x (g x) := fun x hx hx' => hg x hx hx' (rg_down hr hx) (Nat.le_trans (below_sz hx) hsz)
 have hs : ∀ q ∈ e.sub, q.lim ≤ 9223372036854775807 ∧ szQuery q ≤ 1048576 := fun q hq => ⟨(rg_sub hr hq).1, Nat.le_trans (sub_sz hq) hsz⟩
 obtain ⟨kind, op, not, val, qual, name, kids, sub⟩ := e
 obtain ⟨h1, h2, h3⟩ := fm_parts hf
 refine l10Expr_step kind op not val qual name kids sub full gf g hf hr.num (fun x hx => hb x (.inl hx) (h2 x hx)) fun q hq => ?_
 refine l10Query_step full gf g q (h3 q hq) (hs q hq).1 (hs q hq).2 fun x hx => hb x (.inr ⟨q, hq, hx⟩) ?_
 have h4 := h3 q hq
 obtain ⟨d, it, fr, wh, od, li⟩ := q
 exact (fq_parts h4).2.2.2.2.2.2.2 x hx
theorem toks_small (full : Bool) (e : Expr) (hr : Rg e) (h : okE e = true) : fmE e = true ∧ (tkE full e).length ≤ 1000000 ∧ (∀ t ∈ tkE full e, t.text.size ≤ 1048576) ∧ (joinL (tkE full e) (tkE full e).length).length ≤ 50000000 := by
 simp only [okE, Bool.and_eq_true, decide_eq_true_eq] at h
 have hs := tkE_sm full e h.2.2 hr
 exact ⟨h.2.2, Nat.le_trans hs.1 (by omega), fun t ht => Nat.le_trans (hs.2 t ht) (by decide), join_len hs (by omega)⟩
noncomputable def exToks (e : Expr) : List Tok := if okE e = true then tkE false e else []
theorem ExprTokens_d (e : Expr) (hr : Rg e) (hsz : szExpr e ≤ 1048576) : Cl Tryz.prog 11 [.ag (csOf e.row)] [] fun r _ => r = .c (.sl (exToks e).length ((exToks e).flatMap Tok.row) none) := by
 have c1 := ExprOk_d e hsz
 have ht := toks_small false e hr
 have he := l10Expr_d false e
 unfold exToks
 generalize tkE false e = l at *
 cases hb : okE e
 case false =>
  rw [hb] at c1
  obtain ⟨kind, op, not, val, qual, name, kids, sub⟩ := e
  rw [Expr.row_mk] at c1 ⊢
  refine cl_of_d follows_mixed false Tryz.func11 rfl (by kernel_rfl) ?_
  simp only [Tryz.f11, tt, seval]
  refine cZ (c1) (by decide) ?_ ?_ <;> simp only [tt, seval]
  refine ⟨_, [], rfl, endOk ?_⟩
  simp only [tt, seval]
 case true =>
  rw [hb] at c1
  obtain ⟨hf, h1, h2, h3⟩ := ht hb
  have he : ∀ out : List Tok, out.length + l.length ≤ 1000000 → Cl Tryz.prog 37 [.c (.ow 61 (out).length ((out).flatMap Tok.row) none), .ag (csOf e.row), vb false] [] fun r _ => r = .c (.ow 61 (out ++ l).length ((out ++ l).flatMap Tok.row) none) := he hf hr hsz
  obtain ⟨kind, op, not, val, qual, name, kids, sub⟩ := e
  rw [Expr.row_mk] at c1 he ⊢
  refine cl_of_d follows_mixed false Tryz.func11 rfl (by kernel_rfl) ?_
  simp only [Tryz.f11, tt, seval]
  refine cZ (c1) (by decide) ?_ ?_ <;> simp only [tt, seval]
  refine cZ (he [] (by simp only [List.length_nil]; omega)) (by decide) ?_ ?_ <;> simp only [tt, seval]
  refine ⟨_, [], rfl, endOk ?_⟩
  simp only [tt, seval]
end Go.Proofs.YtoegnikpokgbfaaGreatDoor
