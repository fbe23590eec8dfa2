/-
  What is needless.
  Conditions: none.
-/
import Derived.Test.YtoegnikpokgbfaaGreatDoorETJ2
import Derived.Test.YtoegnikpokgbfaaGreatDoorETD2
import Derived.Test.YtoegnikpokgbfaaGreatDoorETSa
import Derived.Test.YtoegnikpokgbfaaGreatDoorETQ
import Derived.Test.YtoegnikpokgbfaaGreatDoorETV2
import Derived.Test.YtoegnikpokgbfaaGreatDoorETW
set_option linter.unusedVariables false
set_option linter.unusedSimpArgs false
set_option linter.unusedSectionVars false
set_option maxRecDepth 8000
namespace Go.Proofs.YtoegnikpokgbfaaGreatDoor
open Go Go.Dv Go.Cv
open Go.Vc (D shrI xorI andI)
theorem woP_le (L : List Tok) (k : Int) : (woP L k).length ≤ L.length := by
 have d : ∀ (l : List Tok) (i : Nat), (delAt l i).length ≤ l.length := fun l i => by unfold delAt; rw [List.length_append, List.length_take, List.length_drop]; omega
 unfold woP
 split
 ·split
  ·exact Nat.le_trans (d _ _) (d _ _)
  ·exact Nat.le_refl _
 ·exact Nat.le_refl _
noncomputable def isN (L : List Tok) (e : Expr) (k : Int) : Bool := @decide ((takeE (woP L k)).2 < 0 ∧ (takeE (woP L k)).1 = e) (Classical.propDecidable _)
theorem isN_iff {L : List Tok} {e : Expr} {k : Int} : isN L e k = true ↔ (takeE (woP L k)).2 < 0 ∧ (takeE (woP L k)).1 = e := by
 unfold isN
 exact @decide_eq_true_iff _ (Classical.propDecidable _)
theorem isNeedless_d (L : List Tok) (hL : L.length ≤ 1048576) (hT : ∀ t ∈ L, t.text.size ≤ 1048576) (k : Int) (e : Expr) : Cl Tryz.prog 66 [.c (.sl L.length (L.flatMap Tok.row) none), vi k, .ag (csOf e.row)] [] fun r _ => r = vb (isN L e k) := by
 have c1 := iWithoutPair_d L hL k
 have c2 := iTakeExpr_d (woP L k) (Nat.le_trans (woP_le L k) hL) (fun t ht => hT t (woP_mem ht))
 have c3 := iSameExprG (takeE (woP L k)).1 e
 have hi := @isN_iff L e k
 generalize isN L e k = b at *
 generalize woP L k = M at *
 generalize (takeE M).2 = bad at *
 generalize (takeE M).1 = x at *
 obtain ⟨k1, p1, n1, v1, q1, m1, ks1, ss1⟩ := e
 obtain ⟨k2, p2, n2, v2, q2, m2, ks2, ss2⟩ := x
 simp only [Expr.row_mk, told, Val.row, lc] at c2 c3
 rw [Expr.row_mk]
 refine cl_of_d follows_mixed false Tryz.func66 rfl (by kernel_rfl) ?_
 simp only [Tryz.f66, tt, seval]
 try simp only [tt, seval, Expr.row_mk, told, Val.row, lc]
 refine cZ (c1) (by decide) ?_ ?_ <;> simp only [tt, seval, Expr.row_mk, told, Val.row, lc]
 refine call0 (c2) ?_ ?_ ?_
 ·decide
 ·simp only [tt, seval, Expr.row_mk, told, Val.row, lc]
 rintro r ⟨Fk, Fs, rfl⟩
 simp only [tt, seval, Expr.row_mk, told, Val.row, lc]
 by_cases hb : bad < 0
 ·have g := decide_eq_true hb
  try simp only [tt, seval, g, Expr.row_mk, told, Val.row, lc]
  refine call0 (c3) ?_ ?_ ?_
  ·decide
  ·simp only [tt, seval, Expr.row_mk, told, Val.row, lc]
  rintro r ⟨t, rfl, ht⟩
  simp only [tt, seval, Expr.row_mk, told, Val.row, lc]
  have e1 : t = b := by
   cases t <;> cases b <;> simp_all
  rw [e1]
  exact ⟨_, _, rfl, end0 rfl⟩
 ·have g := decide_eq_false hb
  have e1 : b = false := by
   cases b with
   | false => rfl
   | true => exact absurd (hi.1 rfl).1 hb
  subst e1
  try simp only [tt, seval, g, Expr.row_mk, told, Val.row, lc]
  exact ⟨_, _, rfl, end0 rfl⟩
theorem irow_app (a : List Int) (x : Int) : a.flatMap irow ++ [D.lit (.int .i64 x)] = (a ++ [x]).flatMap irow := by rw [List.flatMap_append]; rfl
noncomputable def ndT (L : List Tok) (e : Expr) : Nat → List Int
 | 0 => []
 | n + 1 => if isN L e n = true then ndT L e n ++ [(n : Int)] else ndT L e n
theorem ndT_len (L : List Tok) (e : Expr) : ∀ n, (ndT L e n).length ≤ n
 | 0 => Nat.le_refl _
 | n + 1 => by
  have := ndT_len L e n
  unfold ndT
  split
  ·rw [List.length_append, List.length_singleton]; omega
  ·omega
def ndR (L : List Tok) (r : S) : Prop := if 0 ≤ (takeE L).2 then r = .c (.v (.slice none 0 0)) else ∃ F, r = .c (.ow 3 (ndT L (takeE L).1 (prs L).length).length ((ndT L (takeE L).1 (prs L).length).flatMap irow) (some F))
set_option maxHeartbeats 2000000 in
theorem iNeedless_d (L : List Tok) (hL : L.length ≤ 1048576) (hT : ∀ t ∈ L, t.text.size ≤ 1048576) : Cl Tryz.prog 24 [.c (.sl L.length (L.flatMap Tok.row) none)] [] fun r _ => ndR L r := by
 have c2 := iTakeExpr_d L hL hT
 have c1 := iPairsOf_d L hL
 have c3 := fun k => isNeedless_d L hL hT k (takeE L).1
 have hpl : (prs L).length ≤ L.length := by
  unfold prs
  exact Nat.le_trans (List.length_filterMap_le _ _) (by simp)
 unfold ndR
 generalize (prs L).length = n at *
 generalize (prs L).flatMap prow = pd at *
 generalize (takeE L).2 = bad at *
 generalize (takeE L).1 = x at *
 obtain ⟨ls, hls⟩ : ∃ ls, ls = ndT L x := ⟨_, rfl⟩
 have hl0 : ls 0 = [] := by rw [hls]; rfl
 have hlt : ∀ k, ls (k + 1) = if isN L x k = true then ls k ++ [(k : Int)] else ls k := fun k => by rw [hls]; rfl
 have hll : ∀ k, (ls k).length ≤ k := fun k => by rw [hls]; exact ndT_len L x k
 rw [← hls]
 generalize isN L x = nb at *
 clear hls
 obtain ⟨k2, p2, n2, v2, q2, m2, ks2, ss2⟩ := x
 simp only [Expr.row_mk, told, Val.row, lc] at c2 c3
 refine cl_of_d follows_mixed true Tryz.func24 rfl (by kernel_rfl) ?_
 simp only [Tryz.f24, tt, seval]
 try simp only [tt, seval, Expr.row_mk, told, Val.row, lc]
 refine call0 (c2) ?_ ?_ ?_
 ·decide
 ·simp only [tt, seval, Expr.row_mk, told, Val.row, lc]
 rintro r ⟨Fk, Fs, rfl⟩
 simp only [tt, seval, Expr.row_mk, told, Val.row, lc]
 refine And.intro (fun hb => ?_) (fun hb => ?_)
 ·refine ⟨.c (.v (.slice none 0 0)), [], by rw [if_pos hb], endOk ?_⟩
  simp only [tt, seval]
  exact Sb.nil _
 ·skip
  refine cZ (c1) (by decide) ?_ ?_ <;> simp only [tt, seval, Expr.row_mk, told, Val.row, lc]
  refine fun _ => ?_
  refine dLoop.gh [.ren 14 28] ⟨by decide, by decide, ?_⟩
  refine dLoop0.intro (fun f L' p => ∃ i : Nat, f 18 = vi i ∧ f 5 = .c (.s 28 (ls i).length) ∧ i ≤ n ∧ L' = [(28, .arr 3 (ls i).length ((ls i).flatMap irow) (some [])), (3, .str [.v (.int .i64 k2), .v (.int .i64 p2), .v (.bool n2), .v (.int .i64 v2.kind), .v (.int .i64 v2.num), .v (.string v2.text), .v (.string q2), .v (.string m2), .sl ks2.length (ks2.flatMap Expr.row) (some Fk), .sl ss2.length (ss2.flatMap Query.row) (some Fs)])] ∧ p = some (Fk ++ Fs)) (fun f _ _ => (n - ixS (f 18)).toNat) [(28, .arr 3 (ls 0).length ((ls 0).flatMap irow) (some [])), (3, .str [.v (.int .i64 k2), .v (.int .i64 p2), .v (.bool n2), .v (.int .i64 v2.kind), .v (.int .i64 v2.num), .v (.string v2.text), .v (.string q2), .v (.string m2), .sl ks2.length (ks2.flatMap Expr.row) (some Fk), .sl ss2.length (ss2.flatMap Query.row) (some Fs)])] (some (Fk ++ Fs)) ⟨?_, PoSub.refl _, ?_⟩ ?_
  ·rw [hl0]
   simp only [tt, seval]
   exact SubO.cons rfl (SubO.cons rfl (SubO.nil _))
  ·rw [hl0]
   simp only [tt, seval]
   exact ⟨0, rfl, by rw [hl0]; rfl, Nat.zero_le _, by rw [hl0]; rfl⟩
  ·rintro g L' p ⟨i, ix, ox, hi, rfl, rfl⟩
   have hlen := hll i
   simp only [tt, seval] at ix ox
   simp only [tt, seval, ix, ox, Int.ofNat_lt]
   refine And.intro (fun h1 => ?_) (fun hge => ?_)
   ·have h1 : i < n := by omega
    refine cZ (c3 i) (by decide) ?_ ?_ <;> simp only [tt, seval, Expr.row_mk, told, Val.row, lc, ix, ox]
    cases h : nb (i : Int)
    case false =>
     have e := hlt i
     rw [h, if_neg (by decide)] at e
     try simp only [tt, seval, h, ix, ox]
     try rw [wrS i (by omega)]
     exact ⟨_, _, SubO.cons rfl (SubO.cons rfl (SubO.nil _)), PoSub.refl _, ⟨i + 1, rfl, by rw [e], by omega, by rw [e], rfl⟩, by simp only [ixS]; omega⟩
    case true =>
     have e := hlt i
     rw [h, if_pos rfl] at e
     try simp only [tt, seval, h, ix, ox]
     refine ⟨by kernel_rfl, ⟨by simp only [maxLen]; omega, by omega⟩, ?_⟩
     try simp only [tt, seval, ix, ox]
     try rw [wrS i (by omega)]
     rw [irow_app, show (ls i).length + 1 = (ls i ++ [(i : Int)]).length by simp, ← e]
     exact ⟨_, _, SubO.cons rfl (SubO.cons rfl (SubO.nil _)), PoSub.refl _, ⟨i + 1, rfl, rfl, by omega, rfl, rfl⟩, by simp only [ixS]; omega⟩
   ·have : i = n := by omega
    subst this
    try simp only [tt, seval, ix, ox]
    refine ⟨.c (.ow 3 (ls i).length ((ls i).flatMap irow) (some [])), [], by rw [if_neg hb]; exact ⟨_, rfl⟩, endOk ?_⟩
    simp only [tt, seval]
    exact Sb.nil _
end Go.Proofs.YtoegnikpokgbfaaGreatDoor
