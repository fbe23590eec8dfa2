/-
  Evaluating; the law.
  Conditions: none.
-/
import Derived.Test.YtfddkbckoapmfaaGreatDoorVTV
import Derived.Test.YtfddkbckoapmfaaGreatDoorVTX
set_option linter.unusedVariables false
set_option linter.unusedSimpArgs false
set_option linter.unusedSectionVars false
set_option maxRecDepth 8000
namespace Go.Proofs.YtfddkbckoapmfaaGreatDoor
open Go Go.Dv
open Go.Vc (D shrI xorI andI and255)
theorem bae3 : ByteArray.empty = ⟨#[]⟩ := rfl
theorem SubNum_d (n : Int) (h1 : 1 ≤ n) (h2 : n ≤ 9223372036854775807) : Cl Tryz.prog 115 [vi 0, vi n] [] fun r _ => r = .tu [([.v (.int .i64 (-n))], true), ([.v (.bool true)], true)] := by
 refine cl_of_d follows_mixed false Tryz.func115 rfl (by kernel_rfl) ?_
 simp only [Tryz.f115, tt, seval]
 have g1 : (n < 0) = False := eq_false (by omega)
 have g2 : (n > 0) = True := eq_true (by omega)
 have g3 : decide (n < 0) = false := decide_eq_false (by omega)
 have g4 : decide (n > 0) = true := decide_eq_true (by omega)
 have g5 : decide (0 < n) = true := decide_eq_true (by omega)
 try simp only [tt, seval, g1, g2, g3, g4, g5]
 rw [wrap_id (n := (-9223372036854775808 : Int) + n) (by omega) (by omega)]
 have g6 : (0 < (-9223372036854775808 : Int) + n) = False := eq_false (by omega)
 have g7 : decide (0 < (-9223372036854775808 : Int) + n) = false := decide_eq_false (by omega)
 try simp only [tt, seval, g6, g7]
 rw [wrap_id (n := (0 : Int) - n) (by omega) (by omega), show (0 : Int) - n = -n by omega]
 exact ⟨_, _, rfl, end0 rfl⟩
theorem iIntValue_d (n : Int) : Cl Tryz.prog 118 [vi n] [] fun r _ => r = .ag (csOf (⟨1, n, ⟨#[]⟩⟩ : Val).row) := by
 rw [Val.row]
 refine cl_of_d follows_mixed false Tryz.func118 rfl (by kernel_rfl) ?_
 simp only [Tryz.f118, tt, seval]
 exact ⟨_, _, rfl, end0 rfl⟩
theorem arith_d (n : Int) (h1 : 1 ≤ n) (h2 : n ≤ 9223372036854775807) : Cl Tryz.prog 74 [vi 11, vi 0, vi n] [] fun r _ => r = .tu [(csOf ((⟨1, -n, ⟨#[]⟩⟩ : Val) : Val).row, false), ([.v (.int .i64 0)], true)] := by
 have c1 := iIntValue_d (-n)
 rw [Val.row] at c1 ⊢
 refine cl_of_d follows_mixed false Tryz.func74 rfl (by kernel_rfl) ?_
 simp only [Tryz.f74, tt, seval]
 refine cZ (SubNum_d n h1 h2) (by decide) ?_ ?_ <;> simp only [tt, seval]
 refine cZ (c1) (by decide) ?_ ?_ <;> simp only [tt, seval]
 exact ⟨_, _, rfl, end0 rfl⟩
theorem Unary_neg (n : Int) (h1 : 1 ≤ n) (h2 : n ≤ 9223372036854775807) : Cl Tryz.prog 48 [vi 16, .ag (csOf (⟨1, n, ⟨#[]⟩⟩ : Val).row)] [] fun r _ => r = .tu [(csOf ((⟨1, -n, ⟨#[]⟩⟩ : Val) : Val).row, false), ([.v (.int .i64 0)], true)] := by
 have c1 := iValueOk_d (⟨1, n, ⟨#[]⟩⟩ : Val)
 have e : valOk (⟨1, n, ⟨#[]⟩⟩ : Val) = true := rfl
 have c2 := arith_d n h1 h2
 rw [e] at c1
 rw [Val.row] at c1 c2 ⊢
 refine cl_of_d follows_mixed false Tryz.func48 rfl (by kernel_rfl) ?_
 simp only [Tryz.f48, tt, seval]
 refine cZ (c1) (by decide) ?_ ?_ <;> simp only [tt, seval]
 refine cZ (c2) (by decide) ?_ ?_ <;> simp only [tt, seval]
 exact ⟨_, _, rfl, end0 rfl⟩
theorem shape_l : Cl Tryz.prog 42 [vi 1] [] fun r _ => r = formS 1 15 ⟨0, 0, ⟨#[]⟩⟩ ⟨#[]⟩ ⟨#[120]⟩ := by
 have c1 := formOf_d 1 15 false ⟨0, 0, ⟨#[]⟩⟩ ⟨#[]⟩ ⟨#[120]⟩ [] []
 rw [Expr.row_mk] at c1
 simp only [formS] at c1 ⊢
 refine cl_of_d follows_mixed false Tryz.func42 rfl (by kernel_rfl) ?_
 simp only [Tryz.f42, tt, seval]
 refine cZ (c1) (by decide) ?_ ?_ <;> simp only [tt, seval, List.flatMap_nil, List.length_nil, bae3]
 exact ⟨_, _, rfl, end0 rfl⟩
theorem shape_u : Cl Tryz.prog 42 [vi 3] [] fun r _ => r = formS 3 15 ⟨0, 0, ⟨#[]⟩⟩ ⟨#[]⟩ ⟨#[120]⟩ := by
 have c1 := formOf_d 3 15 false ⟨0, 0, ⟨#[]⟩⟩ ⟨#[]⟩ ⟨#[120]⟩ [] []
 rw [Expr.row_mk] at c1
 simp only [formS] at c1 ⊢
 refine cl_of_d follows_mixed false Tryz.func42 rfl (by kernel_rfl) ?_
 simp only [Tryz.f42, tt, seval]
 refine cZ (c1) (by decide) ?_ ?_ <;> simp only [tt, seval, List.flatMap_nil, List.length_nil, bae3]
 exact ⟨_, _, rfl, end0 rfl⟩
theorem hasShape_l : Cl Tryz.prog 24 [vi 1, vi 0, vi 0] [] fun r _ => r = vb true := by
 have c1 := shape_l
 rw [show formS 1 15 ⟨0, 0, ⟨#[]⟩⟩ ⟨#[]⟩ ⟨#[120]⟩ = .tu [([.v (.bool false), .v (.bool false), .v (.bool true), .v (.bool false), .v (.int .i64 0), .v (.int .i64 0), .v (.int .i64 0)], false), ([.v (.bool true)], true)] by kernel_rfl] at c1
 refine cl_of_d follows_mixed false Tryz.func24 rfl (by kernel_rfl) ?_
 simp only [Tryz.f24, tt, seval]
 refine cZ (c1) (by decide) ?_ ?_ <;> simp only [tt, seval]
 exact ⟨_, _, rfl, end0 rfl⟩
theorem hasShape_u : Cl Tryz.prog 24 [vi 3, vi 1, vi 0] [] fun r _ => r = vb true := by
 have c1 := shape_u
 rw [show formS 3 15 ⟨0, 0, ⟨#[]⟩⟩ ⟨#[]⟩ ⟨#[120]⟩ = .tu [([.v (.bool true), .v (.bool false), .v (.bool false), .v (.bool false), .v (.int .i64 1), .v (.int .i64 1), .v (.int .i64 0)], false), ([.v (.bool true)], true)] by kernel_rfl] at c1
 refine cl_of_d follows_mixed false Tryz.func24 rfl (by kernel_rfl) ?_
 simp only [Tryz.f24, tt, seval]
 refine cZ (c1) (by decide) ?_ ?_ <;> simp only [tt, seval]
 exact ⟨_, _, rfl, end0 rfl⟩
theorem result_l (v : Val) : Cl Tryz.prog 26 [.ag [.v (.int .i64 1), .v (.int .i64 0), .v (.bool false), .v (.int .i64 v.kind), .v (.int .i64 v.num), .v (.string v.text), .v (.slice none 0 0), .v (.slice none 0 0)]] [] fun r _ => r = .tu [(csOf (v : Val).row, false), ([.v (.int .i64 0)], true)] := by
 rw [Val.row]
 refine cl_of_d follows_mixed false Tryz.func26 rfl (by kernel_rfl) ?_
 simp only [Tryz.f26, tt, seval]
 exact ⟨_, _, rfl, end0 rfl⟩
theorem result_u (n : Int) (h1 : 1 ≤ n) (h2 : n ≤ 9223372036854775807) : Cl Tryz.prog 26 [.ag [.v (.int .i64 3), .v (.int .i64 16), .v (.bool false), .v (.int .i64 0), .v (.int .i64 0), .v (.string ⟨#[]⟩), .sl 1 (⟨1, n, ⟨#[]⟩⟩ : Val).row none, .v (.slice none 0 0)]] [] fun r _ => r = .tu [(csOf ((⟨1, -n, ⟨#[]⟩⟩ : Val) : Val).row, false), ([.v (.int .i64 0)], true)] := by
 have c1 := Unary_neg n h1 h2
 simp only [Val.row] at c1 ⊢
 refine cl_of_d follows_mixed false Tryz.func26 rfl (by kernel_rfl) ?_
 simp only [Tryz.f26, tt, seval]
 refine dDrawn.intro [] (pln [0, 2, 4, 6, 8, 10, 13, 14, 16, 19, 20]) (by kernel_rfl) ?_
 simp only [tt, seval]
 try simp only [tt, seval]
 refine ⟨_, rfl, by simp, ?_⟩
 simp only [tt, seval]
 refine cZ (c1) (by decide) ?_ ?_ <;> simp only [tt, seval]
 all_goals repeat' (with_reducible refine And.intro ?_ ?_)
 all_goals exact ⟨_, _, rfl, end0 rfl⟩
set_option maxHeartbeats 2000000 in
theorem Eval_l (v : Val) : Cl Tryz.prog 10 [.ag [.v (.slice none 0 0)], .ag [.v (.slice none 0 0)], .c (.v (.slice none 0 0)), .ag (csOf (PExpr.mk 1 0 false v 0 0 [] []).row)] [] fun r _ => r = .tu [(csOf (v : Val).row, false), ([.v (.int .i64 0)], true)] := by
 have c1 := hasShape_l
 have c2 := result_l v
 rw [Val.row] at c2 ⊢
 rw [PExpr.row_mk]
 refine cl_of_d follows_mixed false Tryz.func10 rfl (by kernel_rfl) ?_
 simp only [Tryz.f10, tt, seval]
 try simp only [tt, seval, List.length_nil, List.flatMap_nil]
 refine cZ (c1) (by decide) ?_ ?_ <;> simp only [tt, seval]
 try simp only [tt, seval, List.length_nil, List.flatMap_nil]
 refine dLoop.intro (fun f L p => f 81 = vi 0 ∧ L = [(4, .str [.v (.slice none 0 0)]), (5, .str [.v (.slice none 0 0)]), (7, .str [.v (.int .i64 1), .v (.int .i64 0), .v (.bool false), .v (.int .i64 v.kind), .v (.int .i64 v.num), .v (.string v.text), .v (.int .i64 0), .v (.int .i64 0), .sl 0 [] none, .sl 0 [] none]), (8, .str [.v (.int .i64 0), .v (.int .i64 0), .v (.string ByteArray.empty)]), (10, .str [.v (.int .i64 1), .v (.int .i64 0), .v (.bool false), .v (.int .i64 v.kind), .v (.int .i64 v.num), .v (.string v.text), .v (.slice none 0 0), .v (.slice none 0 0)])] ∧ p = none) (fun _ _ _ => 0) [(4, .str [.v (.slice none 0 0)]), (5, .str [.v (.slice none 0 0)]), (7, .str [.v (.int .i64 1), .v (.int .i64 0), .v (.bool false), .v (.int .i64 v.kind), .v (.int .i64 v.num), .v (.string v.text), .v (.int .i64 0), .v (.int .i64 0), .sl 0 [] none, .sl 0 [] none]), (8, .str [.v (.int .i64 0), .v (.int .i64 0), .v (.string ByteArray.empty)]), (10, .str [.v (.int .i64 1), .v (.int .i64 0), .v (.bool false), .v (.int .i64 v.kind), .v (.int .i64 v.num), .v (.string v.text), .v (.slice none 0 0), .v (.slice none 0 0)])] none ⟨SubO.cons rfl (SubO.cons rfl (SubO.cons rfl (SubO.cons rfl (SubO.cons rfl (SubO.nil _))))), PoSub.none _, ?_⟩ ?_
 ·simp only [tt, seval]
 rintro g L p ⟨ix, rfl, rfl⟩
 simp only [tt, seval] at ix
 simp only [tt, seval, ix]
 refine dLoop.intro (fun f L p => f 107 = vi 0 ∧ L = [(4, .str [.v (.slice none 0 0)]), (5, .str [.v (.slice none 0 0)]), (7, .str [.v (.int .i64 1), .v (.int .i64 0), .v (.bool false), .v (.int .i64 v.kind), .v (.int .i64 v.num), .v (.string v.text), .v (.int .i64 0), .v (.int .i64 0), .sl 0 [] none, .sl 0 [] none]), (8, .str [.v (.int .i64 0), .v (.int .i64 0), .v (.string ByteArray.empty)]), (10, .str [.v (.int .i64 1), .v (.int .i64 0), .v (.bool false), .v (.int .i64 v.kind), .v (.int .i64 v.num), .v (.string v.text), .v (.slice none 0 0), .v (.slice none 0 0)])] ∧ p = none) (fun _ _ _ => 0) [(4, .str [.v (.slice none 0 0)]), (5, .str [.v (.slice none 0 0)]), (7, .str [.v (.int .i64 1), .v (.int .i64 0), .v (.bool false), .v (.int .i64 v.kind), .v (.int .i64 v.num), .v (.string v.text), .v (.int .i64 0), .v (.int .i64 0), .sl 0 [] none, .sl 0 [] none]), (8, .str [.v (.int .i64 0), .v (.int .i64 0), .v (.string ByteArray.empty)]), (10, .str [.v (.int .i64 1), .v (.int .i64 0), .v (.bool false), .v (.int .i64 v.kind), .v (.int .i64 v.num), .v (.string v.text), .v (.slice none 0 0), .v (.slice none 0 0)])] none ⟨SubO.cons rfl (SubO.cons rfl (SubO.cons rfl (SubO.cons rfl (SubO.cons rfl (SubO.nil _))))), PoSub.none _, ?_⟩ ?_
 ·simp only [tt, seval]
 rintro g2 L p ⟨jx, rfl, rfl⟩
 simp only [tt, seval] at jx
 simp only [tt, seval, ix, jx]
 refine cZ (c2) (by decide) ?_ ?_ <;> simp only [tt, seval, ix, jx]
 exact ⟨_, _, rfl, end0 rfl⟩
set_option maxHeartbeats 4000000 in
theorem Eval_u (n : Int) (h1 : 1 ≤ n) (h2 : n ≤ 9223372036854775807) : Cl Tryz.prog 10 [.ag [.v (.slice none 0 0)], .ag [.v (.slice none 0 0)], .c (.v (.slice none 0 0)), .ag (csOf (PExpr.mk 3 16 false ⟨0, 0, ⟨#[]⟩⟩ 0 0 [(PExpr.mk 1 0 false (⟨1, n, ⟨#[]⟩⟩ : Val) 0 0 [] [])] []).row)] [] fun r _ => r = .tu [(csOf ((⟨1, -n, ⟨#[]⟩⟩ : Val) : Val).row, false), ([.v (.int .i64 0)], true)] := by
 have c1 := hasShape_u
 have c2 := result_u n h1 h2
 have c3 := Eval_l (⟨1, n, ⟨#[]⟩⟩ : Val)
 simp only [Val.row] at c2 c3 ⊢
 rw [PExpr.row_mk] at c3 ⊢
 simp only [List.flatMap_cons, List.flatMap_nil, List.append_nil, List.length_cons, List.length_nil, PExpr.row_mk] at c3 ⊢
 refine cl_of_d follows_mixed false Tryz.func10 rfl (by kernel_rfl) ?_
 simp only [Tryz.f10, tt, seval]
 refine cZ (c1) (by decide) ?_ ?_ <;> simp only [tt, seval]
 try simp only [tt, seval]
 refine dLoop.gh [.virtC 10 6 101 25] ⟨by decide, ?_⟩
 refine dLoop0.intro (fun f L p => ∃ (i : Nat) (Fp : Fp), f 81 = vi i ∧ i ≤ 1 ∧ L = [(4, .str [.v (.slice none 0 0)]), (5, .str [.v (.slice none 0 0)]), (7, .str [.v (.int .i64 3), .v (.int .i64 16), .v (.bool false), .v (.int .i64 0), .v (.int .i64 0), .v (.string ⟨#[]⟩), .v (.int .i64 0), .v (.int .i64 0), .sl 1 [int 1, int 0, bool false, int 1, int n, str ⟨#[]⟩, int 0, int 0, .sl 0 [], .sl 0 []] none, .sl 0 [] none]), (8, .str [.v (.int .i64 0), .v (.int .i64 0), .v (.string ByteArray.empty)]), (10, .str [.v (.int .i64 3), .v (.int .i64 16), .v (.bool false), .v (.int .i64 0), .v (.int .i64 0), .v (.string ⟨#[]⟩), .s 101 (List.replicate i (⟨1, n, ⟨#[]⟩⟩ : Val)).length, .v (.slice none 0 0)]), (101, .arr 25 (List.replicate i (⟨1, n, ⟨#[]⟩⟩ : Val)).length ((List.replicate i (⟨1, n, ⟨#[]⟩⟩ : Val)).flatMap Val.row) Fp)] ∧ p = none) (fun f _ _ => (1 - ixS (f 81)).toNat) [(4, .str [.v (.slice none 0 0)]), (5, .str [.v (.slice none 0 0)]), (7, .str [.v (.int .i64 3), .v (.int .i64 16), .v (.bool false), .v (.int .i64 0), .v (.int .i64 0), .v (.string ⟨#[]⟩), .v (.int .i64 0), .v (.int .i64 0), .sl 1 [int 1, int 0, bool false, int 1, int n, str ⟨#[]⟩, int 0, int 0, .sl 0 [], .sl 0 []] none, .sl 0 [] none]), (8, .str [.v (.int .i64 0), .v (.int .i64 0), .v (.string ByteArray.empty)]), (10, .str [.v (.int .i64 3), .v (.int .i64 16), .v (.bool false), .v (.int .i64 0), .v (.int .i64 0), .v (.string ⟨#[]⟩), .s 101 (List.replicate 0 (⟨1, n, ⟨#[]⟩⟩ : Val)).length, .v (.slice none 0 0)]), (101, .arr 25 (List.replicate 0 (⟨1, n, ⟨#[]⟩⟩ : Val)).length ((List.replicate 0 (⟨1, n, ⟨#[]⟩⟩ : Val)).flatMap Val.row) (some []))] none ⟨SubO.cons rfl (SubO.cons rfl (SubO.cons rfl (SubO.cons rfl (SubO.cons rfl (SubO.cons rfl (SubO.nil _)))))), PoSub.none _, ?_⟩ ?_
 ·simp only [tt, seval]
  exact ⟨0, some [], rfl, by omega, rfl⟩
 rintro g L p ⟨i, Fq, ix, hi, rfl, rfl⟩
 simp only [tt, seval] at ix
 simp only [tt, seval, ix]
 refine And.intro (fun hlt => ?_) (fun hge => ?_)
 ·have hi0 : i = 0 := by omega
  subst hi0
  try simp only [tt, seval, ix]
  refine ⟨_, rfl, by simp, ?_⟩
  simp only [tt, seval, ix]
  refine cZ (c3) (by decide) ?_ ?_ <;> simp only [tt, seval, ix]
  refine ⟨by kernel_rfl, ⟨by simp only [maxLen]; omega, by omega⟩, ?_⟩
  try rw [wrap_id (n := ((0 : Nat) : Int) + 1) (by omega) (by omega)]
  try rw [show IntKind.i64.wrap 1 = 1 from rfl]
  exact ⟨[(4, .str [.v (.slice none 0 0)]), (5, .str [.v (.slice none 0 0)]), (7, .str [.v (.int .i64 3), .v (.int .i64 16), .v (.bool false), .v (.int .i64 0), .v (.int .i64 0), .v (.string ⟨#[]⟩), .v (.int .i64 0), .v (.int .i64 0), .sl 1 [int 1, int 0, bool false, int 1, int n, str ⟨#[]⟩, int 0, int 0, .sl 0 [], .sl 0 []] none, .sl 0 [] none]), (8, .str [.v (.int .i64 0), .v (.int .i64 0), .v (.string ByteArray.empty)]), (10, .str [.v (.int .i64 3), .v (.int .i64 16), .v (.bool false), .v (.int .i64 0), .v (.int .i64 0), .v (.string ⟨#[]⟩), .s 101 (List.replicate 1 (⟨1, n, ⟨#[]⟩⟩ : Val)).length, .v (.slice none 0 0)]), (101, .arr 25 (List.replicate 1 (⟨1, n, ⟨#[]⟩⟩ : Val)).length ((List.replicate 1 (⟨1, n, ⟨#[]⟩⟩ : Val)).flatMap Val.row) none)], none, SubO.cons rfl (SubO.cons rfl (SubO.cons rfl (SubO.cons rfl (SubO.cons rfl (SubO.cons rfl (SubO.nil _)))))), PoSub.none _, ⟨1, none, rfl, by omega, rfl, rfl⟩, by simp only [ixS]; omega⟩
 ·have hi1 : i = 1 := by omega
  subst hi1
  try simp only [tt, seval, ix]
  refine dLoop.intro (fun f L p => f 107 = vi 0 ∧ L = [(4, .str [.v (.slice none 0 0)]), (5, .str [.v (.slice none 0 0)]), (7, .str [.v (.int .i64 3), .v (.int .i64 16), .v (.bool false), .v (.int .i64 0), .v (.int .i64 0), .v (.string ⟨#[]⟩), .v (.int .i64 0), .v (.int .i64 0), .sl 1 [int 1, int 0, bool false, int 1, int n, str ⟨#[]⟩, int 0, int 0, .sl 0 [], .sl 0 []] none, .sl 0 [] none]), (8, .str [.v (.int .i64 0), .v (.int .i64 0), .v (.string ByteArray.empty)]), (10, .str [.v (.int .i64 3), .v (.int .i64 16), .v (.bool false), .v (.int .i64 0), .v (.int .i64 0), .v (.string ⟨#[]⟩), .s 101 (List.replicate 1 (⟨1, n, ⟨#[]⟩⟩ : Val)).length, .v (.slice none 0 0)]), (101, .arr 25 (List.replicate 1 (⟨1, n, ⟨#[]⟩⟩ : Val)).length ((List.replicate 1 (⟨1, n, ⟨#[]⟩⟩ : Val)).flatMap Val.row) Fq)] ∧ p = none) (fun _ _ _ => 0) [(4, .str [.v (.slice none 0 0)]), (5, .str [.v (.slice none 0 0)]), (7, .str [.v (.int .i64 3), .v (.int .i64 16), .v (.bool false), .v (.int .i64 0), .v (.int .i64 0), .v (.string ⟨#[]⟩), .v (.int .i64 0), .v (.int .i64 0), .sl 1 [int 1, int 0, bool false, int 1, int n, str ⟨#[]⟩, int 0, int 0, .sl 0 [], .sl 0 []] none, .sl 0 [] none]), (8, .str [.v (.int .i64 0), .v (.int .i64 0), .v (.string ByteArray.empty)]), (10, .str [.v (.int .i64 3), .v (.int .i64 16), .v (.bool false), .v (.int .i64 0), .v (.int .i64 0), .v (.string ⟨#[]⟩), .s 101 (List.replicate 1 (⟨1, n, ⟨#[]⟩⟩ : Val)).length, .v (.slice none 0 0)]), (101, .arr 25 (List.replicate 1 (⟨1, n, ⟨#[]⟩⟩ : Val)).length ((List.replicate 1 (⟨1, n, ⟨#[]⟩⟩ : Val)).flatMap Val.row) Fq)] none ⟨SubO.cons rfl (SubO.cons rfl (SubO.cons rfl (SubO.cons rfl (SubO.cons rfl (SubO.cons rfl (SubO.nil _)))))), PoSub.none _, ?_⟩ ?_
  ·simp only [tt, seval]
  rintro g2 L p ⟨jx, rfl, rfl⟩
  simp only [tt, seval] at jx
  simp only [tt, seval, ix, jx]
  have er : Val.row (⟨1, n, ⟨#[]⟩⟩ : Val) = [int 1, int n, str ⟨#[]⟩] := rfl
  refine cZ (c2) (by decide) ?_ ?_ <;> simp only [tt, seval, ix, jx, er]
  exact ⟨_, _, rfl, end0 rfl⟩
theorem lower_l (v : Val) : Cl Tryz.prog 11 [.ag (csOf (mLit v).row)] [] fun r _ => r = .ag (csOf (PExpr.mk 1 0 false v 0 0 [] []).row) := by
 rw [mLit, Expr.row_mk, PExpr.row_mk]
 simp only [z0, List.flatMap_nil, List.length_nil]
 refine cl_of_d follows_mixed false Tryz.func11 rfl (by kernel_rfl) ?_
 simp only [Tryz.f11, tt, seval]
 refine dLoop.intro (fun f L p => f 4 = vi 0 ∧ L = [(1, .str [.v (.int .i64 1), .v (.int .i64 0), .v (.bool false), .v (.int .i64 v.kind), .v (.int .i64 v.num), .v (.string v.text), .v (.string ⟨#[]⟩), .v (.string ⟨#[]⟩), .sl 0 [] none, .sl 0 [] none]), (2, .str [.v (.int .i64 0), .v (.int .i64 0), .v (.bool false), .v (.int .i64 0), .v (.int .i64 0), .v (.string ByteArray.empty), .v (.int .i64 0), .v (.int .i64 0), .v (.slice none 0 0), .v (.slice none 0 0)]), (3, .str [.v (.int .i64 1), .v (.int .i64 0), .v (.bool false), .v (.int .i64 v.kind), .v (.int .i64 v.num), .v (.string v.text), .v (.int .i64 0), .v (.int .i64 0), .v (.slice none 0 0), .v (.slice none 0 0)])] ∧ p = none) (fun _ _ _ => 0) [(1, .str [.v (.int .i64 1), .v (.int .i64 0), .v (.bool false), .v (.int .i64 v.kind), .v (.int .i64 v.num), .v (.string v.text), .v (.string ⟨#[]⟩), .v (.string ⟨#[]⟩), .sl 0 [] none, .sl 0 [] none]), (2, .str [.v (.int .i64 0), .v (.int .i64 0), .v (.bool false), .v (.int .i64 0), .v (.int .i64 0), .v (.string ByteArray.empty), .v (.int .i64 0), .v (.int .i64 0), .v (.slice none 0 0), .v (.slice none 0 0)]), (3, .str [.v (.int .i64 1), .v (.int .i64 0), .v (.bool false), .v (.int .i64 v.kind), .v (.int .i64 v.num), .v (.string v.text), .v (.int .i64 0), .v (.int .i64 0), .v (.slice none 0 0), .v (.slice none 0 0)])] none ⟨SubO.cons rfl (SubO.cons rfl (SubO.cons rfl (SubO.nil _))), PoSub.none _, ?_⟩ ?_
 ·simp only [tt, seval]
 rintro g L p ⟨ix, rfl, rfl⟩
 simp only [tt, seval] at ix
 simp only [tt, seval, ix]
 try refine fun _ => ?_
 refine ⟨_, [], rfl, endOk ?_⟩
 simp only [tt, seval]
set_option maxHeartbeats 2000000 in
theorem lower_u (n : Int) : Cl Tryz.prog 11 [.ag (csOf (mUn 16 (mLit (⟨1, n, ⟨#[]⟩⟩ : Val))).row)] [] fun r _ => r = .ag (csOf (PExpr.mk 3 16 false ⟨0, 0, ⟨#[]⟩⟩ 0 0 [(PExpr.mk 1 0 false (⟨1, n, ⟨#[]⟩⟩ : Val) 0 0 [] [])] []).row) := by
 have c1 := lower_l (⟨1, n, ⟨#[]⟩⟩ : Val)
 simp only [mLit, mUn, Expr.row_mk, PExpr.row_mk, z0, zVal, List.flatMap_nil, List.flatMap_cons, List.append_nil, List.length_nil, List.length_cons] at c1 ⊢
 refine cl_of_d follows_mixed false Tryz.func11 rfl (by kernel_rfl) ?_
 simp only [Tryz.f11, tt, seval]
 refine dLoop.gh [.virtC 3 8 30 48] ⟨by decide, ?_⟩
 refine dLoop0.intro (fun f L p => ∃ (i : Nat) (Fp : Fp), f 4 = vi i ∧ i ≤ 1 ∧ L = [(1, .str [.v (.int .i64 3), .v (.int .i64 16), .v (.bool false), .v (.int .i64 0), .v (.int .i64 0), .v (.string ⟨#[]⟩), .v (.string ⟨#[]⟩), .v (.string ⟨#[]⟩), .sl 1 [int 1, int 0, bool false, int 1, int n, str ⟨#[]⟩, str ⟨#[]⟩, str ⟨#[]⟩, .sl 0 [], .sl 0 []] none, .sl 0 [] none]), (2, .str [.v (.int .i64 0), .v (.int .i64 0), .v (.bool false), .v (.int .i64 0), .v (.int .i64 0), .v (.string ByteArray.empty), .v (.int .i64 0), .v (.int .i64 0), .v (.slice none 0 0), .v (.slice none 0 0)]), (3, .str [.v (.int .i64 3), .v (.int .i64 16), .v (.bool false), .v (.int .i64 0), .v (.int .i64 0), .v (.string ⟨#[]⟩), .v (.int .i64 0), .v (.int .i64 0), .s 30 (List.replicate i (PExpr.mk 1 0 false (⟨1, n, ⟨#[]⟩⟩ : Val) 0 0 [] [])).length, .v (.slice none 0 0)]), (30, .arr 48 (List.replicate i (PExpr.mk 1 0 false (⟨1, n, ⟨#[]⟩⟩ : Val) 0 0 [] [])).length ((List.replicate i (PExpr.mk 1 0 false (⟨1, n, ⟨#[]⟩⟩ : Val) 0 0 [] [])).flatMap PExpr.row) Fp)] ∧ p = none) (fun f _ _ => (1 - ixS (f 4)).toNat) [(1, .str [.v (.int .i64 3), .v (.int .i64 16), .v (.bool false), .v (.int .i64 0), .v (.int .i64 0), .v (.string ⟨#[]⟩), .v (.string ⟨#[]⟩), .v (.string ⟨#[]⟩), .sl 1 [int 1, int 0, bool false, int 1, int n, str ⟨#[]⟩, str ⟨#[]⟩, str ⟨#[]⟩, .sl 0 [], .sl 0 []] none, .sl 0 [] none]), (2, .str [.v (.int .i64 0), .v (.int .i64 0), .v (.bool false), .v (.int .i64 0), .v (.int .i64 0), .v (.string ByteArray.empty), .v (.int .i64 0), .v (.int .i64 0), .v (.slice none 0 0), .v (.slice none 0 0)]), (3, .str [.v (.int .i64 3), .v (.int .i64 16), .v (.bool false), .v (.int .i64 0), .v (.int .i64 0), .v (.string ⟨#[]⟩), .v (.int .i64 0), .v (.int .i64 0), .s 30 (List.replicate 0 (PExpr.mk 1 0 false (⟨1, n, ⟨#[]⟩⟩ : Val) 0 0 [] [])).length, .v (.slice none 0 0)]), (30, .arr 48 (List.replicate 0 (PExpr.mk 1 0 false (⟨1, n, ⟨#[]⟩⟩ : Val) 0 0 [] [])).length ((List.replicate 0 (PExpr.mk 1 0 false (⟨1, n, ⟨#[]⟩⟩ : Val) 0 0 [] [])).flatMap PExpr.row) (some []))] none ⟨SubO.cons rfl (SubO.cons rfl (SubO.cons rfl (SubO.cons rfl (SubO.nil _)))), PoSub.none _, ?_⟩ ?_
 ·simp only [tt, seval]
  exact ⟨0, some [], rfl, by omega, rfl⟩
 rintro g L p ⟨i, Fq, ix, hi, rfl, rfl⟩
 simp only [tt, seval] at ix
 simp only [tt, seval, ix]
 refine And.intro (fun hlt => ?_) (fun hge => ?_)
 ·have hi0 : i = 0 := by omega
  subst hi0
  refine dDrawn.intro [] (pln [0, 2, 4, 6, 8, 10, 12, 15, 17, 19, 20, 23]) (by kernel_rfl) ?_
  simp only [tt, seval]
  try simp only [tt, seval, ix]
  refine ⟨_, rfl, by simp, ?_⟩
  simp only [tt, seval, ix]
  repeat' first | refine brC ?_ ?_ | refine brC2 ?_ ?_
  all_goals
   refine cZ (c1) (by decide) ?_ ?_ <;> simp only [tt, seval, ix]
  all_goals repeat' first | refine brA ?_ ?_ | refine brA2 ?_ ?_ | refine brA3 ?_ ?_
  all_goals refine ⟨by kernel_rfl, ⟨by simp only [maxLen]; omega, by omega⟩, ?_⟩
  all_goals try rw [show IntKind.i64.wrap 1 = 1 from rfl]
  all_goals exact ⟨[(1, .str [.v (.int .i64 3), .v (.int .i64 16), .v (.bool false), .v (.int .i64 0), .v (.int .i64 0), .v (.string ⟨#[]⟩), .v (.string ⟨#[]⟩), .v (.string ⟨#[]⟩), .sl 1 [int 1, int 0, bool false, int 1, int n, str ⟨#[]⟩, str ⟨#[]⟩, str ⟨#[]⟩, .sl 0 [], .sl 0 []] none, .sl 0 [] none]), (2, .str [.v (.int .i64 0), .v (.int .i64 0), .v (.bool false), .v (.int .i64 0), .v (.int .i64 0), .v (.string ByteArray.empty), .v (.int .i64 0), .v (.int .i64 0), .v (.slice none 0 0), .v (.slice none 0 0)]), (3, .str [.v (.int .i64 3), .v (.int .i64 16), .v (.bool false), .v (.int .i64 0), .v (.int .i64 0), .v (.string ⟨#[]⟩), .v (.int .i64 0), .v (.int .i64 0), .s 30 (List.replicate 1 (PExpr.mk 1 0 false (⟨1, n, ⟨#[]⟩⟩ : Val) 0 0 [] [])).length, .v (.slice none 0 0)]), (30, .arr 48 (List.replicate 1 (PExpr.mk 1 0 false (⟨1, n, ⟨#[]⟩⟩ : Val) 0 0 [] [])).length ((List.replicate 1 (PExpr.mk 1 0 false (⟨1, n, ⟨#[]⟩⟩ : Val) 0 0 [] [])).flatMap PExpr.row) none)], none, SubO.cons rfl (SubO.cons rfl (SubO.cons rfl (SubO.cons rfl (SubO.nil _)))), PoSub.none _, ⟨1, none, rfl, by omega, rfl, rfl⟩, by simp only [ixS]; omega⟩
 ·have hi1 : i = 1 := by omega
  subst hi1
  have er : (List.replicate 1 (PExpr.mk 1 0 false (⟨1, n, ⟨#[]⟩⟩ : Val) 0 0 [] [])).flatMap PExpr.row = [int 1, int 0, bool false, int 1, int n, str ⟨#[]⟩, int 0, int 0, .sl 0 [], .sl 0 []] := by
   rw [List.replicate_succ, List.replicate_zero, List.flatMap_cons, List.flatMap_nil, PExpr.row_mk]; rfl
  try simp only [tt, seval, ix, er]
  refine ⟨_, [], rfl, endOk ?_⟩
  simp only [tt, seval, PExpr.row_mk, Val.row, List.flatMap_nil, List.length_nil, lc]
end Go.Proofs.YtfddkbckoapmfaaGreatDoor
set_option maxRecDepth 8000
namespace Go.Proofs.YtfddkbckoapmfaaGreatDoor
open Go Go.Dv Go.Cv
open Go.Vc (D shrI xorI andI and255)
theorem eqValV (a b : Int) (s : ByteArray) (w : World) : (Op.equalIn 10000 25 (.agg [.int .i64 a, .int .i64 b, .string s].toArray) (.agg [.int .i64 a, .int .i64 b, .string s].toArray)).run Tryz.prog w = .ok true w := by
 refine Go.Vc.equalIn_fk (ks := [(0, .int), (1, .int), (2, .str)]) (by kernel_rfl) (by kernel_rfl) (by kernel_rfl) ?_ w
 simp only [Go.Vc.eqFK, List.getElem?_cons_zero, List.getElem?_cons_succ]
 simp
set_option maxHeartbeats 8000000 in
theorem lawVT_d (bs : List Int) : Cl Tryz.prog 3 [.c (.sl bs.length (bs.flatMap brow) none)] [] fun r _ => r = vb true := by
 refine cl_of_d follows_mixed false Tryz.func3 rfl (by kernel_rfl) ?_
 simp only [Tryz.f3, tt, seval]
 refine cZ (big_d bs) (by decide) ?_ ?_ <;> simp (maxSteps := 10000000) only [tt, seval, Cur.cs, baE, Val.row]
 refine And.intro (fun hbig => ⟨_, _, rfl, end0 rfl⟩) (fun hbig => ?_)
 refine call0 (DrawValueText_d bs) ?_ ?_ ?_
 ·decide
 ·simp (maxSteps := 10000000) only [tt, seval, Cur.cs, baE, Val.row]
 rintro r ⟨⟨k, n, x⟩, rfl, hv⟩
 simp (maxSteps := 10000000) only [tt, seval, Cur.cs, baE, Val.row]
 obtain ⟨hw, hx⟩ := hv
 have hw : wrd n := hw
 have hx : x.size ≤ 1000 := hx
 have c1 := iValueText_d ⟨k, n, x⟩ hw.1 hw.2 (show x.size ≤ 1048576 by omega)
 have c2 := ValueText_d ⟨k, n, x⟩ hw.1 hw.2 (show x.size ≤ 1048576 by omega)
 have c3 := ValueOk_d ⟨k, n, x⟩
 have c4 := iParseExpr_d (valT ⟨k, n, x⟩)
 have hP := fun (a : valOk ⟨k, n, x⟩ = true) b d => valT_parsed (v := ⟨k, n, x⟩) a b hw.1 hw.2 d
 generalize valT ⟨k, n, x⟩ = s at *
 simp only [Val.row] at c1 c2 c3
 refine cZ (c1) (by decide) ?_ ?_ <;> simp (maxSteps := 10000000) only [tt, seval, Cur.cs, baE, Val.row]
 refine cZ (c2) (by decide) ?_ ?_ <;> simp (maxSteps := 10000000) only [tt, seval, Cur.cs, baE, Val.row]
 try simp (maxSteps := 10000000) only [tt, seval, decide_true, Bool.not_true, ne_eq, not_true_eq_false, decide_false, decide_not]
 refine cZ (c3) (by decide) ?_ ?_ <;> simp (maxSteps := 10000000) only [tt, seval, Cur.cs, baE, Val.row]
 cases hok : valOk ⟨k, n, x⟩ with
 | false =>
  try simp (maxSteps := 10000000) only [tt, seval, hok, Bool.not_false]
  exact ⟨_, _, rfl, end0 rfl⟩
 | true =>
  try simp (maxSteps := 10000000) only [tt, seval, hok, Bool.not_true]
  refine fun _ => ?_
  by_cases h40 : (x.size : Int) > 40
  ·try simp (maxSteps := 10000000) only [tt, seval, h40, decide_true, decide_eq_true h40]
   exact ⟨_, _, rfl, end0 rfl⟩
  try simp (maxSteps := 10000000) only [tt, seval, h40, decide_eq_false h40]
  by_cases hk : k = 1
  case neg =>
   try simp (maxSteps := 10000000) only [tt, seval, hk, decide_eq_false hk]
   have e := hP hok (by show x.size ≤ 40; omega) (fun h => absurd h hk)
   rw [e, show valE _ = mLit _ from if_neg (fun h => hk h.1)] at c4
   have c5 := lower_l ⟨k, n, x⟩
   have c6 := Eval_l ⟨k, n, x⟩
   simp only [mLit, z0, PExpr.row_mk, Val.row, List.flatMap_nil, List.length_nil, Expr.row_mk, fcs, told, Val.row, lc] at c4 c5 c6
   refine call0 (c4) ?_ ?_ ?_
   ·decide
   ·simp (maxSteps := 10000000) only [tt, seval, Expr.row_mk, fcs, told, Val.row, lc]
   rintro r ⟨Fk, Fs, rfl⟩
   simp (maxSteps := 10000000) only [tt, seval, Expr.row_mk, fcs, told, Val.row, lc]
   refine cZ (c5) (by decide) ?_ ?_ <;> simp (maxSteps := 10000000) only [tt, seval, Expr.row_mk, fcs, told, Val.row, lc]
   refine cZ (c6) (by decide) ?_ ?_ <;> simp (maxSteps := 10000000) only [tt, seval, Expr.row_mk, fcs, told, Val.row, lc]
   rw [pu_eqagg (by kernel_rfl) (eqValV _ _ _)]
   try simp (maxSteps := 10000000) only [tt, seval]
   exact ⟨_, _, rfl, end0 rfl⟩
  subst hk
  try simp (maxSteps := 10000000) only [tt, seval, decide_true]
  by_cases hn : n < -9223372036854775807
  ·try simp (maxSteps := 10000000) only [tt, seval, hn, decide_true, decide_eq_true hn]
   exact ⟨_, _, rfl, end0 rfl⟩
  try simp (maxSteps := 10000000) only [tt, seval, hn, decide_eq_false hn]
  by_cases hz : n < 0
  case neg =>
   have e := hP hok (by show x.size ≤ 40; omega) (fun _ => (show -9223372036854775807 ≤ n by omega))
   rw [e, show valE _ = mLit _ from if_neg (fun h => hz h.2)] at c4
   have c5 := lower_l ⟨1, n, x⟩
   have c6 := Eval_l ⟨1, n, x⟩
   simp only [mLit, z0, PExpr.row_mk, Val.row, List.flatMap_nil, List.length_nil, Expr.row_mk, fcs, told, Val.row, lc] at c4 c5 c6
   refine call0 (c4) ?_ ?_ ?_
   ·decide
   ·simp (maxSteps := 10000000) only [tt, seval, Expr.row_mk, fcs, told, Val.row, lc]
   rintro r ⟨Fk, Fs, rfl⟩
   simp (maxSteps := 10000000) only [tt, seval, Expr.row_mk, fcs, told, Val.row, lc]
   refine cZ (c5) (by decide) ?_ ?_ <;> simp (maxSteps := 10000000) only [tt, seval, Expr.row_mk, fcs, told, Val.row, lc]
   refine cZ (c6) (by decide) ?_ ?_ <;> simp (maxSteps := 10000000) only [tt, seval, Expr.row_mk, fcs, told, Val.row, lc]
   rw [pu_eqagg (by kernel_rfl) (eqValV _ _ _)]
   try simp (maxSteps := 10000000) only [tt, seval]
   exact ⟨_, _, rfl, end0 rfl⟩
  have hx0 : x = ⟨#[]⟩ := by
   have : valOk ⟨1, n, x⟩ = decide (x = ⟨#[]⟩) := rfl
   rw [this] at hok
   exact of_decide_eq_true hok
  subst hx0
  have e := hP hok (Nat.zero_le _) (fun _ => (show -9223372036854775807 ≤ n by omega))
  rw [e, show valE ⟨1, n, ⟨#[]⟩⟩ = mUn 16 (mLit ⟨1, -n, ⟨#[]⟩⟩) from if_pos ⟨rfl, hz⟩] at c4
  have c5 := lower_u (-n)
  have c6 := Eval_u (-n) (by omega) (by have := hw.1; omega)
  rw [show -(-n) = n by omega] at c6
  simp only [mUn, mLit, z0, zVal, PExpr.row_mk, Val.row, List.flatMap_nil, List.length_nil, List.flatMap_cons, List.length_cons, List.append_nil, Expr.row_mk, fcs, told, Val.row, lc] at c4 c5 c6
  refine call0 (c4) ?_ ?_ ?_
  ·decide
  ·simp (maxSteps := 10000000) only [tt, seval, Expr.row_mk, fcs, told, Val.row, lc]
  rintro r ⟨Fk, Fs, rfl⟩
  simp (maxSteps := 10000000) only [tt, seval, Expr.row_mk, fcs, told, Val.row, lc]
  refine cZ (c5) (by decide) ?_ ?_ <;> simp (maxSteps := 10000000) only [tt, seval, Expr.row_mk, fcs, told, Val.row, lc]
  refine cZ (c6) (by decide) ?_ ?_ <;> simp (maxSteps := 10000000) only [tt, seval, Expr.row_mk, fcs, told, Val.row, lc]
  rw [pu_eqagg (by kernel_rfl) (eqValV _ _ _)]
  try simp (maxSteps := 10000000) only [tt, seval]
  exact ⟨_, _, rfl, end0 rfl⟩
end Go.Proofs.YtfddkbckoapmfaaGreatDoor
