/-
  Printing tokens.
  Conditions: none.
-/
import Derived.Test.YtijldlppojdehaaGreatDoorDNA
set_option linter.unusedVariables false
set_option linter.unusedSimpArgs false
set_option linter.unusedSectionVars false
set_option maxRecDepth 8000
namespace Go.Proofs.YtijldlppojdehaaGreatDoor
open Go Go.Dv
open Go.Vc (D shrI xorI andI and255)
theorem ll : (∀ a b : List Tok, (a ++ b).length = a.length + b.length) ∧ (∀ (t : Tok) (a : List Tok), (t :: a).length = a.length + 1) ∧ ([] : List Tok).length = 0 := ⟨fun _ _ => List.length_append, fun _ _ => List.length_cons, rfl⟩
def kT (k : Nat) : Tok := ⟨1, kw k, 0⟩
def gT (s : ByteArray) : Tok := ⟨5, s, 0⟩
def nT (s : ByteArray) : Tok := ⟨2, s, 0⟩
def iT (n : Int) : Tok := ⟨3, itoaB n, 0⟩
def cmT : Tok := gT ⟨#[44]⟩
def seqN (f : Nat → List Tok) (n : Nat) : List Tok := (List.range n).flatMap f
theorem seqN_succ (f : Nat → List Tok) (n : Nat) : seqN f (n + 1) = seqN f n ++ f n := by
 unfold seqN
 rw [List.range_succ, List.flatMap_append]; simp
theorem seqN_zero (f : Nat → List Tok) : seqN f 0 = [] := rfl
def atL {α : Type} (l : List α) (h : α → List Tok) (i : Nat) : List Tok := match l[i]? with | some x => h x | none => []
theorem atL_get {α : Type} {l : List α} {h : α → List Tok} {i : Nat} (hi : i < l.length) : atL l h i = h l[i] := by rw [atL, List.getElem?_eq_getElem hi]
def cmL (i : Nat) : List Tok := if 0 < i then [cmT] else []
theorem tok1 (l : List Tok) (k : Int) (s : ByteArray) (a : Int) : l.flatMap Tok.row ++ [int k, str s, int a] = (l ++ [Tok.mk k s a]).flatMap Tok.row := by rw [List.flatMap_append]; rfl
theorem tok2 (l : List Tok) (k : Int) (s : ByteArray) (a : Int) (k' : Int) (s' : ByteArray) (a' : Int) : l.flatMap Tok.row ++ [int k, str s, int a, int k', str s', int a'] = (l ++ [Tok.mk k s a, Tok.mk k' s' a']).flatMap Tok.row := by rw [List.flatMap_append]; rfl
theorem len1 (l : List Tok) (t : Tok) : l.length + 1 = (l ++ [t]).length := by simp
theorem len2 (l : List Tok) (t u : Tok) : l.length + 2 = (l ++ [t, u]).length := by simp
theorem owE {l m : List Tok} (h : l = m) : (S.c (.ow 69 (l).length ((l).flatMap Tok.row) none) : S) = .c (.ow 69 (m).length ((m).flatMap Tok.row) none) := by rw [h]
theorem osE {l m : List Tok} {x : C} (h : l = m) : ([[.ow 69 (l).length ((l).flatMap Tok.row) none, x]] : List (List C)) = [[.ow 69 (m).length ((m).flatMap Tok.row) none, x]] := by rw [h]
theorem l10Sign_d (s : ByteArray) : Cl Tryz.prog 89 [vs s] [] fun r _ => r = .ag (csOf (gT s).row) := by
 refine cl_of_d follows_mixed false Tryz.func89 rfl (by kernel_rfl) ?_
 simp only [Tryz.f89, tt, seval]
 exact ⟨_, _, rfl, end0 rfl⟩
theorem l10Name_d (s : ByteArray) : Cl Tryz.prog 90 [vs s] [] fun r _ => r = .ag (csOf (nT s).row) := by
 refine cl_of_d follows_mixed false Tryz.func90 rfl (by kernel_rfl) ?_
 simp only [Tryz.f90, tt, seval]
 exact ⟨_, _, rfl, end0 rfl⟩
end Go.Proofs.YtijldlppojdehaaGreatDoor
set_option maxRecDepth 8000
namespace Go.Proofs.YtijldlppojdehaaGreatDoor
open Go Go.Dv
open Go.Vc (D shrI xorI andI and255)
open Go.RowKit (Below)
def PrC (fn : FuncId) (args : List S) (full : Bool) (l : List Tok) : Prop := ∀ out : List Tok, out.length + l.length ≤ 1000000 → Cl Tryz.prog fn (.c (.p 9000 0) :: args) [[.ow 69 (out).length ((out).flatMap Tok.row) none, .v (.bool full)]] fun r os => r = .tu [] ∧ os = [[.ow 69 (out ++ l).length ((out ++ l).flatMap Tok.row) none, .v (.bool full)]]
theorem put_d (full : Bool) (k : Int) (s : ByteArray) : PrC 147 [vi k, vs s] full ([(Tok.mk k s 0)]) := by
 intro out hroom
 simp only [ll] at hroom
 refine cl_of_d follows_mixed false Tryz.func147 rfl (by kernel_rfl) ?_
 simp only [Tryz.f147, tt, seval]
 refine ⟨by kernel_rfl, ⟨by simp only [maxLen]; (try simp only [ll] at *); omega, by (try simp only [ll] at *); omega⟩, ?_⟩
 rw [tok1 (out), len1 (out) (Tok.mk k s 0)]
 try simp only [tt, seval]
 refine ⟨.tu [], _, ⟨rfl, osE (l := out ++ [(Tok.mk k s 0)]) (by rfl)⟩, endOk ?_⟩
 simp only [tt, seval]
theorem name_d (full : Bool) (s : ByteArray) : PrC 101 [vs s] full ([nT s]) := by
 intro out hroom
 simp only [ll] at hroom
 refine cl_of_d follows_mixed false Tryz.func101 rfl (by kernel_rfl) ?_
 simp only [Tryz.f101, tt, seval]
 refine cS (put_d full 2 s out (by (try simp only [ll] at *); omega)) (by decide) ?_ ?_ <;> simp only [tt, seval]
 refine ⟨.tu [], _, ⟨rfl, osE (l := out ++ [(Tok.mk 2 s 0)]) (by rfl)⟩, endOk ?_⟩
 simp only [tt, seval]
theorem sign_d (full : Bool) (s : ByteArray) : PrC 102 [vs s] full ([gT s]) := by
 intro out hroom
 simp only [ll] at hroom
 refine cl_of_d follows_mixed false Tryz.func102 rfl (by kernel_rfl) ?_
 simp only [Tryz.f102, tt, seval]
 refine cS (put_d full 5 s out (by (try simp only [ll] at *); omega)) (by decide) ?_ ?_ <;> simp only [tt, seval]
 refine ⟨.tu [], _, ⟨rfl, osE (l := out ++ [(Tok.mk 5 s 0)]) (by rfl)⟩, endOk ?_⟩
 simp only [tt, seval]
theorem comma_d (full : Bool) (i : Nat) : PrC 100 [vi i] full (cmL i) := by
 intro out hroom
 refine cl_of_d follows_mixed false Tryz.func100 rfl (by kernel_rfl) ?_
 simp only [Tryz.f100, tt, seval]
 refine And.intro (fun hc => ?_) (fun hc => ?_)
 ·rw [cmL, if_pos (by omega)] at hroom ⊢
  simp only [ll] at hroom
  try simp only [tt, seval]
  refine cS (sign_d full ⟨#[44]⟩ out (by (try simp only [ll] at *); omega)) (by decide) ?_ ?_ <;> simp only [tt, seval]
  refine ⟨.tu [], _, ⟨rfl, osE (l := out ++ [gT ⟨#[44]⟩]) (by rfl)⟩, endOk ?_⟩
  simp only [tt, seval]
 ·rw [cmL, if_neg (by omega)] at hroom ⊢
  try simp only [tt, seval]
  refine ⟨.tu [], _, ⟨rfl, osE (l := out) (by first | rfl | exact (List.append_nil _).symm)⟩, endOk ?_⟩
  simp only [tt, seval]
end Go.Proofs.YtijldlppojdehaaGreatDoor
