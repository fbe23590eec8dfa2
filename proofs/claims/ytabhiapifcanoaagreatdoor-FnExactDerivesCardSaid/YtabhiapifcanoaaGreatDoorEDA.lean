/-
  Words, numbers and tokens; trees.
  Conditions: none.
-/
import Derived.Test.YtabhiapifcanoaaGreatDoorEDTypes
import Derived.Shelf.Strings.BuilderF
import Derived.Shelf.LaysM
import Derived.Shelf.LaysC
import Derived.Shelf.Strconv.Itoa3
import Derived.Shelf.Strings.Split
import Derived.Shelf.Strings.Replace
import Derived.Shelf.Strconv.AtoiAll
import Derived.Test.YtabhiapifcanoaaGreatDoorProg
import Derived.Lib.UnsafeStr
import Derived.Lib.AtoiTie
set_option linter.unusedVariables false
set_option linter.unusedSimpArgs false
set_option linter.unusedSectionVars false
set_option linter.unnecessarySimpa false
set_option maxRecDepth 8000
namespace Go.Proofs.YtabhiapifcanoaaGreatDoor
open Go Go.Dv
open Go.Vc (D shrI xorI andI)
abbrev int (n : Int) : D := .lit (.int .i64 n)
abbrev bool (b : Bool) : D := .lit (.bool b)
abbrev str (s : ByteArray) : D := .lit (.string s)
abbrev vi (n : Int) : S := .c (.v (.int .i64 n))
abbrev vb (b : Bool) : S := .c (.v (.bool b))
abbrev vs (s : ByteArray) : S := .c (.v (.string s))
structure Val where
 kind : Int
 num : Int
 text : ByteArray
def Val.row (v : Val) : List D := [int v.kind, int v.num, str v.text]
structure Fa where
 code : Int
 name : ByteArray
def subL (l : Int) (s : Nat) : Int := if (s : Int) ≤ l then l - s else -1
def szVal (v : Val) : Nat := v.text.size
theorem subL_le {l : Int} {s : Nat} (h : (s : Int) ≤ l) : subL l s = l - s := if_pos h
theorem subL_gt {l : Int} {s : Nat} (h : l < s) : subL l s = -1 := if_neg (by omega)
theorem subL_bounds {l : Int} {s : Nat} (h0 : 0 ≤ l) : -1 ≤ subL l s ∧ subL l s ≤ l := by unfold subL; split <;> omega
theorem subL_add {l : Int} {a b : Nat} (h : 0 ≤ subL l a) : subL l (a + b) = subL (subL l a) b := by
 unfold subL at *
 split at h
 ·rename_i h1
  rw [if_pos h1]
  by_cases h2 : ((a + b : Nat) : Int) ≤ l
  ·rw [if_pos h2, if_pos (by omega)]; omega
  ·rw [if_neg h2, if_neg (by omega)]
 ·omega
theorem subL_neg {l : Int} {a b : Nat} (h : subL l a < 0) (h0 : 0 ≤ l) : subL l (a + b) = -1 := by
 unfold subL at *
 split at h
 ·omega
 ·exact if_neg (by omega)
theorem viE {a b : Int} (h : a = b) : vi a = vi b := by rw [h]
theorem vsE {a b : ByteArray} (h : a = b) : vs a = vs b := by rw [h]
theorem vbE {a b : Bool} (h : a = b) : vb a = vb b := by rw [h]
theorem take_succ_sum {α : Type} (g : α → Nat) {l : List α} {i : Nat} (h : i < l.length) : ((l.take (i + 1)).map g).sum = ((l.take i).map g).sum + g l[i] := by
 rw [List.take_succ_eq_append_getElem h, List.map_append, List.sum_append]; simp only [List.map_cons, List.map_nil, List.sum_cons, List.sum_nil, Nat.add_zero]
theorem take_sum_le {α : Type} (g : α → Nat) (l : List α) (i : Nat) : ∃ r, (l.map g).sum = ((l.take i).map g).sum + r := ⟨((l.drop i).map g).sum, by
 conv => lhs; rw [← List.take_append_drop i l]
 rw [List.map_append, List.sum_append]⟩
theorem szValue_d (v : Val) (l : Int) (h0 : 0 ≤ l) (h1 : l ≤ 1048576) : Cl Tryz.prog 42 [.ag (csOf v.row), vi l] [] fun r _ => r = vi (subL l (szVal v)) := by
 rw [Val.row]
 refine cl_of_d follows_mixed false Tryz.func42 rfl (by kernel_rfl) ?_
 simp only [Tryz.f42, tt, seval]
 refine fun hs => ?_
 rw [wrap_id (n := l - v.text.size) (by omega) (by omega)]
 refine And.intro (fun h => ?_) (fun h => ?_)
 ·exact ⟨_, _, by rw [szVal, subL_gt (by omega)], end0 rfl⟩
 ·exact ⟨_, _, by rw [szVal, subL_le (by omega)], end0 rfl⟩
theorem toValue_d (v : Val) : Cl Tryz.prog 48 [.ag (csOf v.row)] [] fun r _ => r = .ag (csOf v.row) := by
 rw [Val.row]
 refine cl_of_d follows_mixed false Tryz.func48 rfl (by kernel_rfl) ?_
 simp only [Tryz.f48, tt, seval]
 exact ⟨_, _, rfl, end0 rfl⟩
theorem fillLen {α : Type} {row : α → List D} {sz : Nat} (hsz : ∀ e, (row e).length = sz) {z : List D} (hz : z.length = sz) (l : List α) {i : Nat} (h : i ≤ l.length) :
 ((l.take i).flatMap row ++ (List.replicate (l.length - i) z).flatten).length = l.length * sz := by
 rw [List.length_append, flatMap_len hsz, List.length_flatten, List.map_replicate, List.sum_replicate_nat, hz, List.length_take, Nat.min_eq_left h, ← Nat.add_mul]
 congr 1; omega
theorem fillRow {α : Type} {row : α → List D} {sz : Nat} (hsz : ∀ e, (row e).length = sz) {z : List D} (hz : z.length = sz) {l : List α} {i : Nat} (h : i < l.length) :
 List.take (i * sz) ((l.take i).flatMap row ++ (List.replicate (l.length - i) z).flatten) ++ (row l[i] ++ List.drop (i * sz + sz) ((l.take i).flatMap row ++ (List.replicate (l.length - i) z).flatten)) =
  (l.take (i + 1)).flatMap row ++ (List.replicate (l.length - (i + 1)) z).flatten := by
 have hd : ((l.take i).flatMap row).length = i * sz := by rw [flatMap_len hsz, List.length_take, Nat.min_eq_left (by omega)]
 rw [List.take_left' hd, show l.length - i = l.length - (i + 1) + 1 by omega, List.replicate_succ, List.flatten_cons, ← List.append_assoc _ z, List.drop_left' (by simp [hd, hz]), List.take_succ_eq_append_getElem h, List.flatMap_append]
 simp only [List.flatMap_cons, List.flatMap_nil, List.append_nil, List.append_assoc]
theorem fillLast {α : Type} {row : α → List D} (z : List D) (l : List α) : (l.take l.length).flatMap row ++ (List.replicate (l.length - l.length) z).flatten = l.flatMap row := by simp
theorem eqValue_d (v : Val) : Cl Tryz.prog 52 [.ag (csOf v.row), .ag (csOf v.row)] [] fun r _ => r = vb true := by
 rw [Val.row]
 refine cl_of_d follows_mixed false Tryz.func52 rfl (by kernel_rfl) ?_
 simp only [Tryz.f52, tt, seval]
 exact ⟨_, _, rfl, end0 rfl⟩
theorem l1In_d (a l h : Int) : Cl Tryz.prog 102 [vi a, vi l, vi h] [] fun r _ => r = vb (decide (l ≤ a ∧ a ≤ h)) := by
 refine cl_of_d follows_mixed false Tryz.func102 rfl (by kernel_rfl) ?_
 simp only [Tryz.f102, tt, seval]
 all_goals repeat' first | (refine And.intro (fun h => ?_) (fun h => ?_) <;> try simp only [tt, seval]) | (intro _; try simp only [tt, seval])
 all_goals (refine ⟨_, [], vbE (Bool.eq_iff_iff.2 ?_), end0 rfl⟩)
 all_goals (simp only [decide_eq_true_eq, decide_eq_false_iff_not, Bool.or_eq_true, Bool.and_eq_true, Bool.false_eq_true, Bool.not_eq_true', Bool.not_eq_false', Bool.not_eq_true, true_iff, false_iff] at *)
 all_goals omega
def letB (a : Int) : Bool := decide (97 ≤ a ∧ a ≤ 122) || decide (65 ≤ a ∧ a ≤ 90) || decide (a = 95)
theorem NameOk_d (s : ByteArray) : Cl Tryz.prog 141 [vs s] [] fun r _ => r = vb (decide (1 ≤ s.size ∧ s.size ≤ 20)) := by
 refine cl_of_d follows_mixed false Tryz.func141 rfl (by kernel_rfl) ?_
 simp only [Tryz.f141, tt, seval]
 refine fun hs => ?_
 refine cZ (l1In_d s.size 1 20) (by decide) ?_ ?_ <;> simp only [tt, seval]
 exact ⟨_, _, vbE (by simp only [decide_eq_decide]; omega), end0 rfl⟩
theorem iNameOk_d (s : ByteArray) : Cl Tryz.prog 179 [vs s] [] fun r _ => r = vb (decide (1 ≤ s.size ∧ s.size ≤ 20)) := by
 refine cl_of_d follows_mixed false Tryz.func179 rfl (by kernel_rfl) ?_
 simp only [Tryz.f179, tt, seval]
 refine fun hs => ?_
 all_goals repeat' first | (refine And.intro (fun h => ?_) (fun h => ?_) <;> try simp only [tt, seval]) | (intro _; try simp only [tt, seval])
 all_goals (refine ⟨_, [], vbE (Bool.eq_iff_iff.2 ?_), end0 rfl⟩)
 all_goals (simp only [decide_eq_true_eq, decide_eq_false_iff_not, Bool.or_eq_true, Bool.and_eq_true, Bool.false_eq_true, Bool.not_eq_true', Bool.not_eq_false', Bool.not_eq_true, true_iff, false_iff] at *)
 all_goals omega
def up8 (b : UInt8) : UInt8 := if 97 ≤ b.toNat ∧ b.toNat ≤ 122 then b - 32 else b
def foldB (s : ByteArray) : ByteArray := ⟨(s.data.toList.map up8).toArray⟩
theorem bytesD_len (l : List UInt8) : (bytesD l).length = l.length := by simp [bytesD]
theorem bytesD_drop {l : List UInt8} {i : Nat} (h : i < l.length) : (bytesD l).drop i = D.lit (.int .u8 (l[i].toNat : Int)) :: (bytesD l).drop (i + 1) := by
 unfold bytesD
 rw [← List.map_drop, ← List.map_drop, List.drop_eq_getElem_cons h]; rfl
theorem bytesD_set {l : List UInt8} {i : Nat} {b : UInt8} (h : i < l.length) : (bytesD l).take i ++ (D.lit (.int .u8 (b.toNat : Int)) :: (bytesD l).drop (i + 1)) = bytesD (l.set i b) := by
 unfold bytesD
 rw [List.set_eq_take_append_cons_drop, if_pos h, List.map_append, List.map_cons, List.map_take, List.map_drop]
theorem size_toList (s : ByteArray) : s.data.toList.length = s.size := by simp
def upI (l : List UInt8) (i : Nat) : List UInt8 := (l.take i).map up8 ++ l.drop i
theorem upI_len (l : List UInt8) (i : Nat) : (upI l i).length = l.length := by rw [upI, List.length_append, List.length_map, ← List.length_append, List.take_append_drop]
theorem upI_get {l : List UInt8} {i : Nat} (h : i < l.length) : (upI l i)[i]'(by rw [upI_len]; exact h) = l[i] := by
 have hl : ((l.take i).map up8).length = i := by simp; omega
 have : (upI l i)[i]? = some l[i] := by
  rw [upI, List.getElem?_append_right (by omega), hl, Nat.sub_self, List.drop_eq_getElem_cons h]; rfl
 rw [List.getElem?_eq_getElem (by rw [upI_len]; exact h)] at this
 exact Option.some.inj this
theorem upI_step {l : List UInt8} {i : Nat} (h : i < l.length) : (upI l i).set i (up8 l[i]) = upI l (i + 1) := by
 have hl : ((l.take i).map up8).length = i := by simp; omega
 unfold upI
 rw [List.set_append_right _ _ (by omega), hl, Nat.sub_self, List.drop_eq_getElem_cons h, List.set_cons_zero, List.take_succ_eq_append_getElem h, List.map_append]
 simp
theorem upI_same {l : List UInt8} {i : Nat} (h : i < l.length) (hu : up8 l[i] = l[i]) : upI l i = upI l (i + 1) := by
 rw [← upI_step h, hu]
 conv => rhs; rw [← upI_get h]
 rw [List.set_getElem_self]
theorem upI_all (l : List UInt8) : upI l l.length = l.map up8 := by simp [upI]
theorem up8_id {b : UInt8} (h : ¬ (97 ≤ b.toNat ∧ b.toNat ≤ 122)) : up8 b = b := if_neg h
theorem up8_low {b : UInt8} (h : 97 ≤ b.toNat) (h' : b.toNat ≤ 122) : ((up8 b).toNat : Int) = b.toNat - 32 := by
 unfold up8
 rw [if_pos ⟨h, h'⟩, UInt8.toNat_sub_of_le _ _ (by rw [UInt8.le_iff_toNat_le]; show 32 ≤ _; omega)]
 show ((b.toNat - 32 : Nat) : Int) = _
 omega
theorem iFold_d (s : ByteArray) (hs : s.size ≤ 1048576) : Cl Tryz.prog 232 [vs s] [] fun r _ => r = vs (foldB s) := by
 obtain ⟨l, hl⟩ : ∃ l, l = s.data.toList := ⟨_, rfl⟩
 have hll : l.length = s.size := by rw [hl]; exact size_toList s
 refine cl_of_d follows_mixed false Tryz.func232 rfl (by kernel_rfl) ?_
 simp only [Tryz.f232, tt, seval]
 rw [← hl]
 refine fun _ => ?_
 refine dLoop.intro (fun f L p => ∃ i : Nat, f 10 = vi i ∧ i ≤ s.size ∧ L = [(7, .arr 5 s.size (bytesD (upI l i)) none)] ∧ p = none) (fun f _ _ => (s.size - ixS (f 10)).toNat) [(7, .arr 5 s.size (bytesD l) none)] none ⟨SubO.cons rfl (SubO.nil _), PoSub.none _, ?_⟩ ?_
 ·simp only [tt, seval]
  exact ⟨0, rfl, by omega, by simp [upI]⟩
 ·rintro g L p ⟨i, h4, hi, rfl, rfl⟩
  simp only [tt, seval] at h4
  simp only [tt, seval, h4, Int.ofNat_lt]
  refine And.intro (fun hlt => ?_) (fun hge => ?_)
  ·have hlt' : i < (upI l i).length := by rw [upI_len]; omega
   have hd := bytesD_drop hlt'
   rw [upI_get (by omega)] at hd
   have hi0 : (0 : Int) ≤ (i : Int) := Int.natCast_nonneg i
   have hlI : (i : Int) < (s.size : Int) := by omega
   simp only [tt, seval, h4, hd, Nat.mul_one, hlt, hi0, hlI]
   refine And.intro (fun h => ?_) (fun h => ?_)
   ·simp only [tt, seval, h4, hd, Nat.mul_one, hlt, hi0, hlI]
    simp only [decide_eq_true_eq] at h
    refine And.intro (fun h' => ?_) (fun h' => ?_)
    ·rw [wrap_id (n := (i : Int) + 1) (by omega) (by omega), IntWalk.u8_in ((l[i].toNat : Int) - 97) ⟨by omega, by omega⟩, IntWalk.u8_in _ ⟨by omega, by omega⟩, show (l[i].toNat : Int) - 97 + 65 = l[i].toNat - 32 by omega, ← up8_low (by omega) (by omega), bytesD_set hlt', upI_step (by omega)]
     exact ⟨by rw [bytesD_len, upI_len]; omega, _, none, SubO.cons rfl (SubO.nil _), PoSub.none _, ⟨i + 1, rfl, by omega, rfl, rfl⟩, by simp only [ixS]; omega⟩
    ·rw [wrS i (by omega)]
     have hsame := upI_same (l := l) (i := i) (by omega) (up8_id fun h1 => by omega)
     exact ⟨_, none, SubO.cons rfl (SubO.nil _), PoSub.none _, ⟨i + 1, rfl, by omega, congrArg (fun x => [(7, O.arr 5 s.size (bytesD x) none)]) hsame, rfl⟩, by simp only [ixS]; omega⟩
   ·simp only [tt, seval, h4, hd, Nat.mul_one, hlt, hi0, hlI]
    rw [wrS i (by omega)]
    have hsame := upI_same (l := l) (i := i) (by omega) (up8_id fun h1 => by simp only [decide_eq_false_iff_not] at h; omega)
    exact ⟨_, none, SubO.cons rfl (SubO.nil _), PoSub.none _, ⟨i + 1, rfl, by omega, congrArg (fun x => [(7, O.arr 5 s.size (bytesD x) none)]) hsame, rfl⟩, by simp only [ixS]; omega⟩
  ·have : i = s.size := by omega
   subst this
   refine ⟨by kernel_rfl, by simp only [maxLen]; omega, upI l s.size, by rw [upI_len]; exact hll, rfl, ?_⟩
   simp only [tt, seval]
   exact ⟨_, _, vsE (by rw [← hll, upI_all, hl]; rfl), end0 rfl⟩
def srow (s : ByteArray) : List D := [str s]
theorem srow_len (n : ByteArray) : (srow n).length = 1 := rfl
theorem srow_tk (v : ByteArray) (r : List D) : takeD 1 (srow v ++ r) = some (srow v) := takeD_row rfl
theorem srow_ne (v : ByteArray) (r : List D) : srow v ++ r ≠ [] := fun h => by cases h
def kws : List ByteArray := [⟨#[83, 69, 76, 69, 67, 84]⟩, ⟨#[68, 73, 83, 84, 73, 78, 67, 84]⟩, ⟨#[70, 82, 79, 77]⟩, ⟨#[74, 79, 73, 78]⟩, ⟨#[79, 78]⟩, ⟨#[87, 72, 69, 82, 69]⟩, ⟨#[79, 82, 68, 69, 82]⟩, ⟨#[66, 89]⟩, ⟨#[65, 83, 67]⟩, ⟨#[68, 69, 83, 67]⟩, ⟨#[76, 73, 77, 73, 84]⟩, ⟨#[65, 83]⟩, ⟨#[65, 78, 68]⟩, ⟨#[79, 82]⟩, ⟨#[78, 79, 84]⟩, ⟨#[73, 83]⟩, ⟨#[73, 78]⟩, ⟨#[66, 69, 84, 87, 69, 69, 78]⟩, ⟨#[69, 88, 73, 83, 84, 83]⟩, ⟨#[78, 85, 76, 76]⟩, ⟨#[84, 82, 85, 69]⟩, ⟨#[70, 65, 76, 83, 69]⟩, ⟨#[73, 78, 83, 69, 82, 84]⟩, ⟨#[73, 78, 84, 79]⟩, ⟨#[86, 65, 76, 85, 69, 83]⟩, ⟨#[85, 80, 68, 65, 84, 69]⟩, ⟨#[83, 69, 84]⟩, ⟨#[68, 69, 76, 69, 84, 69]⟩]
def words : List ByteArray := ⟨#[]⟩ :: kws
theorem range29 : List.range 29 = [0, 1, 2, 3, 4, 5, 6, 7, 8, 9, 10, 11, 12, 13, 14, 15, 16, 17, 18, 19, 20, 21, 22, 23, 24, 25, 26, 27, 28] := rfl
theorem rep29 (α : Type) (a : α) : List.replicate 29 a = [a, a, a, a, a, a, a, a, a, a, a, a, a, a, a, a, a, a, a, a, a, a, a, a, a, a, a, a, a] := rfl
theorem l2Words_d : Cl Tryz.prog 103 [] [] fun r _ => r = .c (.sl 29 (words.flatMap srow) none) := by
 refine cl_of_d follows_mixed false Tryz.func103 rfl (by kernel_rfl) ?_
 simp only [tt, seval, Tryz.f103, range29, rep29]
 refine ⟨_, [], rfl, endOk ?_⟩
 simp only [tt, seval, words, kws, srow]
theorem fi_some {α : Type} {l : List α} {p : α → Bool} {i : Nat} (h : i < l.length) (hp : p l[i] = true) (hn : ∀ j (hj : j < i), p (l[j]'(by omega)) = false) : l.findIdx p = i := (List.findIdx_eq h).2 ⟨hp, hn⟩
theorem fi_none {α : Type} {l : List α} {p : α → Bool} (hn : ∀ j (hj : j < l.length), p l[j] = false) : l.findIdx p = l.length := List.findIdx_eq_length_of_false fun x hx => by
 obtain ⟨j, hj, rfl⟩ := List.mem_iff_getElem.1 hx
 exact hn j hj
def ixOf (f : ByteArray) (l : List ByteArray) : Int := if l.findIdx (fun w => decide (w = f)) < l.length then l.findIdx (fun w => decide (w = f)) else -1
def key (s : ByteArray) : Int := ixOf (foldB s) kws + 1
theorem Index_d (l : List ByteArray) (f : ByteArray) : Cl Tryz.prog 237 [.c (.sl l.length (l.flatMap srow) none), vs f] [] fun r _ => r = vi (ixOf f l) := by
 refine cl_of_d follows_mixed false Tryz.func237 rfl (by kernel_rfl) ?_
 simp only [Tryz.f237, tt, seval]
 refine fun _ => ?_
 refine dLoop.intro (fun f' L p => ∃ i : Nat, f' 8 = vi i ∧ i ≤ l.length ∧ (∀ j (hj : j < l.length), j < i → l[j] ≠ f) ∧ L = [] ∧ p = none) (fun f' _ _ => (l.length - ixS (f' 8)).toNat) [] none ⟨SubO.nil _, PoSub.none _, ?_⟩ ?_
 ·simp only [tt, seval]
  exact ⟨0, rfl, by omega, fun j _ h => absurd h (Nat.not_lt_zero _)⟩
 ·rintro g L p ⟨i, h8, hi, hn, rfl, rfl⟩
  simp only [tt, seval] at h8
  simp only [tt, seval, h8, Int.ofNat_lt]
  refine And.intro (fun hlt => ?_) (fun hge => ?_)
  ·refine ⟨by omega, by omega, _, drop_row srow_len (List.getElem?_eq_getElem hlt), srow_ne _ _, ?_⟩
   simp only [tt, seval, h8, srow_tk, srow]
   refine And.intro (fun he => ?_) (fun he => ?_)
   ·refine ⟨_, _, viE ?_, end0 rfl⟩
    rw [ixOf, fi_some hlt (by simp [he]) (fun j hj => by simpa using hn j (by omega) hj), if_pos hlt]
   ·rw [wrS i (by omega)]
    exact ⟨[], none, SubO.nil _, PoSub.none _, ⟨i + 1, rfl, by omega, fun j hj hji => by
     by_cases e : j = i
     ·subst e; exact fun h => he h.symm
     ·exact hn j hj (by omega), rfl, rfl⟩, by simp only [ixS]; omega⟩
  ·refine ⟨_, _, viE ?_, end0 rfl⟩
   rw [ixOf, fi_none (fun j hj => by simpa using hn j hj (by omega)), if_neg (by omega)]
theorem kws_small : ∀ w ∈ kws, w.size ≤ 8 := by decide
theorem kws_len : kws.length = 28 := rfl
end Go.Proofs.YtabhiapifcanoaaGreatDoor
namespace Go.Proofs.YtabhiapifcanoaaGreatDoor
open Go Go.Shelf Go.Proofs
def Tryz.lays146_ren : Go.Shelf.Ren := ⟨fun | 146 => 247 | 221 => 252 | 268 => 259 | 138 => 260 | 143 => 261 | 195 => 267 | 197 => 268 | 218 => 269 | 219 => 270 | 260 => 273 | 217 => 274 | 225 => 275 | 224 => 276 | 267 => 277 | 266 => 278 | 314 => 279 | n => n, fun | 9 => 9 | 31 => 136 | 3 => 3 | 4 => 4 | 0 => 0 | 105 => 263 | 21 => 21 | 5 => 5 | 46 => 138 | 119 => 269 | 139 => 272 | 138 => 271 | 146 => 273 | 51 => 260 | n => n, fun | 1 => 3 | 3 => 6 | 4 => 7 | n => n⟩
theorem Tryz.lays146 : Go.Proofs.Lays.n146 Tryz.prog Tryz.lays146_ren := {
 mixed := by kernel_rfl
 f138 := Tryz.func260.trans (congrArg some (by kernel_rfl))
 f143 := Tryz.func261.trans (congrArg some (by kernel_rfl))
 f146 := Tryz.func247.trans (congrArg some (by kernel_rfl))
 f195 := Tryz.func267.trans (congrArg some (by kernel_rfl))
 f197 := Tryz.func268.trans (congrArg some (by kernel_rfl))
 f217 := Tryz.func274.trans (congrArg some (by kernel_rfl))
 f218 := Tryz.func269.trans (congrArg some (by kernel_rfl))
 f219 := Tryz.func270.trans (congrArg some (by kernel_rfl))
 f221 := Tryz.func252.trans (congrArg some (by kernel_rfl))
 f224 := Tryz.func276.trans (congrArg some (by kernel_rfl))
 f225 := Tryz.func275.trans (congrArg some (by kernel_rfl))
 f260 := Tryz.func273.trans (congrArg some (by kernel_rfl))
 f266 := Tryz.func278.trans (congrArg some (by kernel_rfl))
 f267 := Tryz.func277.trans (congrArg some (by kernel_rfl))
 f268 := Tryz.func259.trans (congrArg some (by kernel_rfl))
 f314 := Tryz.func279.trans (congrArg some (by kernel_rfl))
 t0 := Tryz.underlying0
 a0 := Tryz.isAgg0
 z0 := Tryz.sizeOf0
 v0 := Tryz.zeroValue0
 t3 := Tryz.underlying3
 a3 := Tryz.isAgg3
 z3 := Tryz.sizeOf3
 v3 := Tryz.zeroValue3
 t4 := Tryz.underlying4
 a4 := Tryz.isAgg4
 z4 := Tryz.sizeOf4
 v4 := Tryz.zeroValue4
 t5 := Tryz.underlying5
 a5 := Tryz.isAgg5
 z5 := Tryz.sizeOf5
 v5 := Tryz.zeroValue5
 t9 := Tryz.underlying9
 a9 := Tryz.isAgg9
 z9 := Tryz.sizeOf9
 v9 := Tryz.zeroValue9
 t21 := Tryz.underlying21
 a21 := Tryz.isAgg21
 z21 := Tryz.sizeOf21
 v21 := Tryz.zeroValue21
 t31 := Tryz.underlying136
 a31 := Tryz.isAgg136
 z31 := Tryz.sizeOf136
 v31 := Tryz.zeroValue136
 t46 := Tryz.underlying138
 a46 := Tryz.isAgg138
 z46 := Tryz.sizeOf138
 v46 := Tryz.zeroValue138
 t51 := Tryz.underlying260
 a51 := Tryz.isAgg260
 z51 := Tryz.sizeOf260
 v51 := Tryz.zeroValue260
 t105 := Tryz.underlying263
 a105 := Tryz.isAgg263
 z105 := Tryz.sizeOf263
 v105 := Tryz.zeroValue263
 t119 := Tryz.underlying269
 a119 := Tryz.isAgg269
 z119 := Tryz.sizeOf269
 t138 := Tryz.underlying271
 a138 := Tryz.isAgg271
 z138 := Tryz.sizeOf271
 v138 := Tryz.zeroValue271
 t139 := Tryz.underlying272
 a139 := Tryz.isAgg272
 z139 := Tryz.sizeOf272
 v139 := Tryz.zeroValue272
 t146 := Tryz.underlying273
 a146 := Tryz.isAgg273
 z146 := Tryz.sizeOf273
 v146 := Tryz.zeroValue273
 g1 := by kernel_rfl
 g3 := by kernel_rfl
 g4 := by kernel_rfl }
def Tryz.laysM171_ren : Go.Shelf.Ren := ⟨fun | 171 => 236 | 243 => 246 | 246 => 251 | 283 => 255 | 284 => 256 | 285 => 257 | 286 => 258 | 129 => 263 | 317 => 262 | 318 => 264 | 319 => 265 | 320 => 266 | 337 => 271 | 338 => 272 | n => n, fun | 3 => 3 | 9 => 9 | 2 => 2 | 4 => 4 | 171 => 250 | 0 => 0 | 53 => 237 | 37 => 22 | 5 => 5 | 173 => 253 | 212 => 259 | 51 => 260 | 20 => 20 | 213 => 261 | 46 => 138 | 232 => 267 | 233 => 268 | n => n, fun | 17 => 2 | 18 => 4 | 19 => 5 | n => n⟩
theorem Tryz.laysM171 : Go.Proofs.LaysM.n171 Tryz.prog Tryz.laysM171_ren := {
 mixed := by kernel_rfl
 f129 := Tryz.func263.trans (congrArg some (by kernel_rfl))
 f171 := Tryz.func236.trans (congrArg some (by kernel_rfl))
 f243 := Tryz.func246.trans (congrArg some (by kernel_rfl))
 f246 := Tryz.func251.trans (congrArg some (by kernel_rfl))
 f283 := Tryz.func255.trans (congrArg some (by kernel_rfl))
 f284 := Tryz.func256.trans (congrArg some (by kernel_rfl))
 f285 := Tryz.func257.trans (congrArg some (by kernel_rfl))
 f286 := Tryz.func258.trans (congrArg some (by kernel_rfl))
 f317 := Tryz.func262.trans (congrArg some (by kernel_rfl))
 f318 := Tryz.func264.trans (congrArg some (by kernel_rfl))
 f319 := Tryz.func265.trans (congrArg some (by kernel_rfl))
 f320 := Tryz.func266.trans (congrArg some (by kernel_rfl))
 f337 := Tryz.func271.trans (congrArg some (by kernel_rfl))
 f338 := Tryz.func272.trans (congrArg some (by kernel_rfl))
 t0 := Tryz.underlying0
 a0 := Tryz.isAgg0
 z0 := Tryz.sizeOf0
 v0 := Tryz.zeroValue0
 t2 := Tryz.underlying2
 a2 := Tryz.isAgg2
 z2 := Tryz.sizeOf2
 v2 := Tryz.zeroValue2
 t3 := Tryz.underlying3
 a3 := Tryz.isAgg3
 z3 := Tryz.sizeOf3
 v3 := Tryz.zeroValue3
 t4 := Tryz.underlying4
 a4 := Tryz.isAgg4
 z4 := Tryz.sizeOf4
 v4 := Tryz.zeroValue4
 t5 := Tryz.underlying5
 a5 := Tryz.isAgg5
 z5 := Tryz.sizeOf5
 v5 := Tryz.zeroValue5
 t9 := Tryz.underlying9
 a9 := Tryz.isAgg9
 z9 := Tryz.sizeOf9
 v9 := Tryz.zeroValue9
 t20 := Tryz.underlying20
 a20 := Tryz.isAgg20
 z20 := Tryz.sizeOf20
 v20 := Tryz.zeroValue20
 t37 := Tryz.underlying22
 a37 := Tryz.isAgg22
 z37 := Tryz.sizeOf22
 v37 := Tryz.zeroValue22
 t46 := Tryz.underlying138
 a46 := Tryz.isAgg138
 z46 := Tryz.sizeOf138
 v46 := Tryz.zeroValue138
 t51 := Tryz.underlying260
 a51 := Tryz.isAgg260
 z51 := Tryz.sizeOf260
 v51 := Tryz.zeroValue260
 t53 := Tryz.underlying237
 a53 := Tryz.isAgg237
 z53 := Tryz.sizeOf237
 v53 := Tryz.zeroValue237
 t171 := Tryz.underlying250
 a171 := Tryz.isAgg250
 z171 := Tryz.sizeOf250
 v171 := Tryz.zeroValue250
 t173 := Tryz.underlying253
 a173 := Tryz.isAgg253
 z173 := Tryz.sizeOf253
 v173 := Tryz.zeroValue253
 t212 := Tryz.underlying259
 a212 := Tryz.isAgg259
 z212 := Tryz.sizeOf259
 v212 := Tryz.zeroValue259
 t213 := Tryz.underlying261
 a213 := Tryz.isAgg261
 z213 := Tryz.sizeOf261
 t232 := Tryz.underlying267
 a232 := Tryz.isAgg267
 z232 := Tryz.sizeOf267
 v232 := Tryz.zeroValue267
 t233 := Tryz.underlying268
 a233 := Tryz.isAgg268
 z233 := Tryz.sizeOf268
 v233 := Tryz.zeroValue268
 g17 := by kernel_rfl
 g18 := by kernel_rfl
 g19 := by kernel_rfl
 i0 := by kernel_rfl
 i2 := by kernel_rfl
 i3 := by kernel_rfl
 i4 := by kernel_rfl
 i5 := by kernel_rfl
 i9 := by kernel_rfl
 i20 := by kernel_rfl
 i37 := by kernel_rfl
 i46 := by kernel_rfl
 i51 := by kernel_rfl
 i53 := by kernel_rfl
 i171 := by kernel_rfl
 i173 := by kernel_rfl
 i212 := by kernel_rfl
 i232 := by kernel_rfl
 i233 := by kernel_rfl
 m17 := by kernel_rfl
 m18 := by kernel_rfl
 m19 := by kernel_rfl }
def Tryz.laysC172_ren : Go.Shelf.Ren := ⟨fun | 172 => 225 | 244 => 234 | 245 => 235 | 247 => 241 | 279 => 242 | 280 => 243 | 281 => 244 | 282 => 245 | 287 => 248 | 316 => 249 | 171 => 236 | 205 => 250 | 321 => 253 | 322 => 254 | 243 => 246 | 246 => 251 | 283 => 255 | 284 => 256 | 285 => 257 | 286 => 258 | 129 => 263 | 317 => 262 | 318 => 264 | 319 => 265 | 320 => 266 | 337 => 271 | 338 => 272 | n => n, fun | 9 => 9 | 3 => 3 | 75 => 223 | 76 => 224 | 4 => 4 | 5 => 5 | 167 => 230 | 37 => 22 | 0 => 0 | 85 => 231 | 2 => 2 | 168 => 233 | 53 => 237 | 175 => 238 | 46 => 138 | 210 => 241 | 127 => 246 | 145 => 249 | 143 => 247 | 21 => 21 | 171 => 250 | 173 => 253 | 212 => 259 | 51 => 260 | 20 => 20 | 213 => 261 | 232 => 267 | 233 => 268 | 80 => 220 | n => n, fun | 15 => 0 | 16 => 1 | 17 => 2 | 18 => 4 | 19 => 5 | n => n⟩
theorem Tryz.laysC172 : Go.Proofs.LaysC.n172 Tryz.prog Tryz.laysC172_ren := {
 mixed := by kernel_rfl
 f129 := Tryz.func263.trans (congrArg some (by kernel_rfl))
 f171 := Tryz.func236.trans (congrArg some (by kernel_rfl))
 f172 := Tryz.func225.trans (congrArg some (by kernel_rfl))
 f205 := Tryz.func250.trans (congrArg some (by kernel_rfl))
 f243 := Tryz.func246.trans (congrArg some (by kernel_rfl))
 f244 := Tryz.func234.trans (congrArg some (by kernel_rfl))
 f245 := Tryz.func235.trans (congrArg some (by kernel_rfl))
 f246 := Tryz.func251.trans (congrArg some (by kernel_rfl))
 f247 := Tryz.func241.trans (congrArg some (by kernel_rfl))
 f279 := Tryz.func242.trans (congrArg some (by kernel_rfl))
 f280 := Tryz.func243.trans (congrArg some (by kernel_rfl))
 f281 := Tryz.func244.trans (congrArg some (by kernel_rfl))
 f282 := Tryz.func245.trans (congrArg some (by kernel_rfl))
 f283 := Tryz.func255.trans (congrArg some (by kernel_rfl))
 f284 := Tryz.func256.trans (congrArg some (by kernel_rfl))
 f285 := Tryz.func257.trans (congrArg some (by kernel_rfl))
 f286 := Tryz.func258.trans (congrArg some (by kernel_rfl))
 f287 := Tryz.func248.trans (congrArg some (by kernel_rfl))
 f316 := Tryz.func249.trans (congrArg some (by kernel_rfl))
 f317 := Tryz.func262.trans (congrArg some (by kernel_rfl))
 f318 := Tryz.func264.trans (congrArg some (by kernel_rfl))
 f319 := Tryz.func265.trans (congrArg some (by kernel_rfl))
 f320 := Tryz.func266.trans (congrArg some (by kernel_rfl))
 f321 := Tryz.func253.trans (congrArg some (by kernel_rfl))
 f322 := Tryz.func254.trans (congrArg some (by kernel_rfl))
 f337 := Tryz.func271.trans (congrArg some (by kernel_rfl))
 f338 := Tryz.func272.trans (congrArg some (by kernel_rfl))
 t0 := Tryz.underlying0
 a0 := Tryz.isAgg0
 z0 := Tryz.sizeOf0
 v0 := Tryz.zeroValue0
 t2 := Tryz.underlying2
 a2 := Tryz.isAgg2
 z2 := Tryz.sizeOf2
 v2 := Tryz.zeroValue2
 t3 := Tryz.underlying3
 a3 := Tryz.isAgg3
 z3 := Tryz.sizeOf3
 v3 := Tryz.zeroValue3
 t4 := Tryz.underlying4
 a4 := Tryz.isAgg4
 z4 := Tryz.sizeOf4
 v4 := Tryz.zeroValue4
 t5 := Tryz.underlying5
 a5 := Tryz.isAgg5
 z5 := Tryz.sizeOf5
 v5 := Tryz.zeroValue5
 t9 := Tryz.underlying9
 a9 := Tryz.isAgg9
 z9 := Tryz.sizeOf9
 v9 := Tryz.zeroValue9
 t20 := Tryz.underlying20
 a20 := Tryz.isAgg20
 z20 := Tryz.sizeOf20
 v20 := Tryz.zeroValue20
 t21 := Tryz.underlying21
 a21 := Tryz.isAgg21
 z21 := Tryz.sizeOf21
 v21 := Tryz.zeroValue21
 t37 := Tryz.underlying22
 a37 := Tryz.isAgg22
 z37 := Tryz.sizeOf22
 v37 := Tryz.zeroValue22
 t46 := Tryz.underlying138
 a46 := Tryz.isAgg138
 z46 := Tryz.sizeOf138
 v46 := Tryz.zeroValue138
 t51 := Tryz.underlying260
 a51 := Tryz.isAgg260
 z51 := Tryz.sizeOf260
 v51 := Tryz.zeroValue260
 t53 := Tryz.underlying237
 a53 := Tryz.isAgg237
 z53 := Tryz.sizeOf237
 v53 := Tryz.zeroValue237
 t75 := Tryz.underlying223
 a75 := Tryz.isAgg223
 z75 := Tryz.sizeOf223
 v75 := Tryz.zeroValue223
 t76 := Tryz.underlying224
 a76 := Tryz.isAgg224
 z76 := Tryz.sizeOf224
 v76 := Tryz.zeroValue224
 t85 := Tryz.underlying231
 a85 := Tryz.isAgg231
 z85 := Tryz.sizeOf231
 v85 := Tryz.zeroValue231
 t127 := Tryz.underlying246
 a127 := Tryz.isAgg246
 z127 := Tryz.sizeOf246
 v127 := Tryz.zeroValue246
 t143 := Tryz.underlying247
 a143 := Tryz.isAgg247
 z143 := Tryz.sizeOf247
 v143 := Tryz.zeroValue247
 t145 := Tryz.underlying249
 a145 := Tryz.isAgg249
 z145 := Tryz.sizeOf249
 v145 := Tryz.zeroValue249
 t167 := Tryz.underlying230
 a167 := Tryz.isAgg230
 z167 := Tryz.sizeOf230
 v167 := Tryz.zeroValue230
 t168 := Tryz.underlying233
 a168 := Tryz.isAgg233
 z168 := Tryz.sizeOf233
 v168 := Tryz.zeroValue233
 t171 := Tryz.underlying250
 a171 := Tryz.isAgg250
 z171 := Tryz.sizeOf250
 v171 := Tryz.zeroValue250
 t173 := Tryz.underlying253
 a173 := Tryz.isAgg253
 z173 := Tryz.sizeOf253
 v173 := Tryz.zeroValue253
 t175 := Tryz.underlying238
 a175 := Tryz.isAgg238
 z175 := Tryz.sizeOf238
 v175 := Tryz.zeroValue238
 t210 := Tryz.underlying241
 a210 := Tryz.isAgg241
 z210 := Tryz.sizeOf241
 v210 := Tryz.zeroValue241
 t212 := Tryz.underlying259
 a212 := Tryz.isAgg259
 z212 := Tryz.sizeOf259
 v212 := Tryz.zeroValue259
 t213 := Tryz.underlying261
 a213 := Tryz.isAgg261
 z213 := Tryz.sizeOf261
 t232 := Tryz.underlying267
 a232 := Tryz.isAgg267
 z232 := Tryz.sizeOf267
 v232 := Tryz.zeroValue267
 t233 := Tryz.underlying268
 a233 := Tryz.isAgg268
 z233 := Tryz.sizeOf268
 v233 := Tryz.zeroValue268
 g15 := by kernel_rfl
 g16 := by kernel_rfl
 g17 := by kernel_rfl
 g18 := by kernel_rfl
 g19 := by kernel_rfl
 t80 := Tryz.underlying220
 a80 := Tryz.isAgg220
 z80 := Tryz.sizeOf220
 v80 := Tryz.zeroValue220
 i0 := by kernel_rfl
 i2 := by kernel_rfl
 i3 := by kernel_rfl
 i4 := by kernel_rfl
 i5 := by kernel_rfl
 i9 := by kernel_rfl
 i20 := by kernel_rfl
 i21 := by kernel_rfl
 i37 := by kernel_rfl
 i46 := by kernel_rfl
 i51 := by kernel_rfl
 i53 := by kernel_rfl
 i75 := by kernel_rfl
 i76 := by kernel_rfl
 i80 := by kernel_rfl
 i85 := by kernel_rfl
 i127 := by kernel_rfl
 i143 := by kernel_rfl
 i145 := by kernel_rfl
 i167 := by kernel_rfl
 i168 := by kernel_rfl
 i171 := by kernel_rfl
 i173 := by kernel_rfl
 i175 := by kernel_rfl
 i210 := by kernel_rfl
 i212 := by kernel_rfl
 i232 := by kernel_rfl
 i233 := by kernel_rfl
 m15 := by kernel_rfl
 m16 := by kernel_rfl
 m17 := by kernel_rfl
 m18 := by kernel_rfl
 m19 := by kernel_rfl
 c0 := by kernel_rfl
 c2 := by kernel_rfl
 c3 := by kernel_rfl
 c4 := by kernel_rfl
 c5 := by kernel_rfl
 c9 := by kernel_rfl
 c20 := by kernel_rfl
 c21 := by kernel_rfl
 c37 := by kernel_rfl
 c46 := by kernel_rfl
 c51 := by kernel_rfl
 c53 := by kernel_rfl
 c75 := by kernel_rfl
 c76 := by kernel_rfl
 c80 := by kernel_rfl
 c85 := by kernel_rfl
 c127 := by kernel_rfl
 c143 := by kernel_rfl
 c145 := by kernel_rfl
 c167 := by kernel_rfl
 c168 := by kernel_rfl
 c171 := by kernel_rfl
 c173 := by kernel_rfl
 c175 := by kernel_rfl
 c210 := by kernel_rfl
 c212 := by kernel_rfl
 c213 := by kernel_rfl
 c232 := by kernel_rfl
 c233 := by kernel_rfl }
end Go.Proofs.YtabhiapifcanoaaGreatDoor
set_option maxRecDepth 8000
namespace Go.Proofs.YtabhiapifcanoaaGreatDoor
open Go Go.Dv
open Go.Vc (D shrI xorI andI)
open Go.RowKit (Below)
theorem gl_pow {w : World} {own : Nat → Prop} (h : GlW w own) : ∃ ty lh, w.heap[2]? = some (.cells (Lib.pow10Tab.map fun z => Value.int .u64 z).toArray ty lh) := by
 obtain ⟨_, cs, ty, lh, h2, h3⟩ := h _ (List.mem_cons_self)
 exact ⟨ty, lh, by rw [← h3]; exact h2⟩
theorem gl_max {w : World} {own : Nat → Prop} (h : GlW w own) : ∃ m, w.cell? ⟨3, 0, none⟩ = some (.int .i64 m) := by
 obtain ⟨_, cs, ty, lh, h2, m, h3⟩ := h _ (List.mem_cons_of_mem _ (List.mem_cons_self))
 exact ⟨m, by simp only [World.cell?, h2]; exact h3⟩
theorem below_grow (w : World) (k : Nat) (os : Array Obj) : Below w.heap.size w (Go.Sort.grow (w.drewN k) os) :=
 ⟨rfl, rfl, rfl, by simp [Go.Sort.grow, World.drewN], fun i hi => by simp [Go.Sort.grow, World.drewN, Array.getElem?_append, hi]⟩
def itoaB (n : Int) : ByteArray := ⟨(Lib.itoa n).toArray⟩
theorem decDigits_len (u : Nat) : ∀ k, u < 10 ^ (k + 1) → (Lib.decDigits u).length ≤ k + 1 := by
 intro k
 induction k generalizing u with
 | zero => intro h; rw [Lib.decDigits, dif_pos (by simpa using h)]; simp
 | succ k ih =>
  intro h
  rw [Lib.decDigits]
  split
  ·simp
  ·have := ih (u / 10) (by rw [Nat.pow_succ] at h; omega)
   simp only [List.length_append, List.length_singleton]; omega
theorem itoa_len {n : Int} (h0 : -9223372036854775808 ≤ n) (h1 : n ≤ 9223372036854775807) : (Lib.itoa n).length ≤ 20 := by
 unfold Lib.itoa
 split
 ·have := decDigits_len n.natAbs 18 (by omega)
  simp only [List.length_cons]; omega
 ·have := decDigits_len n.toNat 18 (by omega)
  omega
theorem itoaB_size {n : Int} (h0 : -9223372036854775808 ≤ n) (h1 : n ≤ 9223372036854775807) : (itoaB n).size ≤ 20 := by
 show (List.toArray _).size ≤ 20
 simpa using itoa_len h0 h1
theorem Itoa_d (n : Int) (h0 : -9223372036854775808 ≤ n) (h1 : n ≤ 9223372036854775807) : Cl Tryz.prog 236 [vi n] [] fun r _ => r = vs (itoaB n) :=
 Cl.ofVals (by kernel_rfl) [.int .i64 n] fun w hg => by
  obtain ⟨ty, lh, hp⟩ := gl_pow hg
  refine (Any.strconv_Itoa Tryz.laysM171 n h0 h1 w ?_).mono ?_
  ·unfold Lib.TabIs World.var?
   rw [show Tryz.prog.globalNamed _ = some 2 by kernel_rfl]
   simp only [Option.bind_some, hp]
  ·rintro e w' ⟨rfl, k, os, rfl⟩
   have := itoaB_size h0 h1
   exact ⟨_, rfl, by show ByteArray.size _ ≤ maxLen; simp only [maxLen]; exact Nat.le_trans this (by decide), rfl, below_grow w k os⟩
end Go.Proofs.YtabhiapifcanoaaGreatDoor
set_option maxRecDepth 8000
namespace Go.Proofs.YtabhiapifcanoaaGreatDoor
open Go Go.Dv
open Go.Vc (D shrI xorI andI)
open Go.RowKit (Below)
open Go.Vc (CellF RowF ValsF okV)
def kwText : ByteArray := ⟨#[83, 69, 76, 69, 67, 84, 32, 68, 73, 83, 84, 73, 78, 67, 84, 32, 70, 82, 79, 77, 32, 74, 79, 73, 78, 32, 79, 78, 32, 87, 72, 69, 82, 69, 32, 79, 82, 68, 69, 82, 32, 66, 89, 32, 65, 83, 67, 32, 68, 69, 83, 67, 32, 76, 73, 77, 73, 84, 32, 65, 83, 32, 65, 78, 68, 32, 79, 82, 32, 78, 79, 84, 32, 73, 83, 32, 73, 78, 32, 66, 69, 84, 87, 69, 69, 78, 32, 69, 88, 73, 83, 84, 83, 32, 78, 85, 76, 76, 32, 84, 82, 85, 69, 32, 70, 65, 76, 83, 69, 32, 73, 78, 83, 69, 82, 84, 32, 73, 78, 84, 79, 32, 86, 65, 76, 85, 69, 83, 32, 85, 80, 68, 65, 84, 69, 32, 83, 69, 84, 32, 68, 69, 76, 69, 84, 69]⟩
theorem split_kws : Lib.splitB ⟨#[32]⟩ 0 (Lib.countB kwText ⟨#[32]⟩) kwText = kws := by decide +kernel
theorem count_kws : Lib.countB kwText ⟨#[32]⟩ = 27 := by decide +kernel
theorem strs_vals (w : World) : ∀ l : List ByteArray, (∀ s ∈ l, s.size ≤ maxLen) → ValsF w (l.flatMap srow) (l.map Value.string) []
 | [], _ => rfl
 | s :: r, h => ⟨[], [], ⟨rfl, rfl, h s (by simp)⟩, strs_vals w r fun x hx => h x (by simp [hx]), rfl⟩
theorem strs_cell (w w' : World) (ty : TypeId) (l : List ByteArray) (hl : l ≠ []) (hs : ∀ s ∈ l, s.size ≤ maxLen) (hn : l.length ≤ maxLen) (β : Nat → Option Nat) (hw : w'.heap[w.heap.size]? = some (.cells (l.map Value.string).toArray ty (0, 0))) :
 RelS Tryz.prog w' β (fun b => w.heap.size ≤ b) (.c (.sl l.length (l.flatMap srow) none)) (.slice (some ⟨w.heap.size, 0, none⟩) l.length l.length) := by
 have hrow : RowF w' w.heap.size 0 (l.flatMap srow) [] := (strs_vals w' l hs).row fun j v hj => by
  rw [cell_of_row w' w.heap.size (0 + j) _ _ _ hw]; simpa using hj
 refine ⟨[w.heap.size], ⟨some ⟨w.heap.size, 0, none⟩, l.length, rfl, Nat.le_refl _, hn, (fun e => by cases e), .inr ⟨?_, w.heap.size, 0, [], rfl, hrow, rfl⟩⟩, (fun b hb => by simp at hb; omega), (fun _ e => by cases e)⟩
 cases l with
 | nil => exact absurd rfl hl
 | cons s r => simp [srow]
theorem Split_d : Cl Tryz.prog 247 [vs kwText, vs ⟨#[32]⟩] [] fun r _ => r = .c (.sl 28 (kws.flatMap srow) none) :=
 Cl.ofNew (by kernel_rfl) [.string kwText, .string ⟨#[32]⟩] fun w hg => by
  obtain ⟨m, hm⟩ := gl_max hg
  refine (Any.strings_Split Tryz.lays146 (by kernel_rfl) kwText ⟨#[32]⟩ m w (by decide) hm (by decide)).mono ?_
  rintro e w' ⟨rfl, rfl⟩
  rw [split_kws, count_kws]
  refine ⟨_, _, rfl, rfl, by rfl, fun β => strs_cell w _ _ kws (by decide) (fun s hs => Nat.le_trans (kws_small s hs) (by decide)) (by decide) β (Go.heap_alloc_new w _), ⟨rfl, rfl, rfl, by simp, fun i hi => Go.heap_alloc_old w _ hi⟩⟩
theorem keywords_d : Cl Tryz.prog 238 [] [] fun r _ => r = .c (.sl 28 (kws.flatMap srow) none) := by
 refine cl_of_d follows_mixed false Tryz.func238 rfl (by kernel_rfl) ?_
 simp only [tt, seval, Tryz.f238]
 refine call0 Split_d ?_ ?_ ?_
 ·decide
 ·simp only [tt, seval]
  rfl
 rintro r rfl
 simp only [tt, seval]
 exact ⟨_, _, rfl, end0 rfl⟩
theorem iKeyOf_d (s : ByteArray) (hs : s.size ≤ 1048576) : Cl Tryz.prog 231 [vs s] [] fun r _ => r = vi (key s) := by
 refine cl_of_d follows_mixed false Tryz.func231 rfl (by kernel_rfl) ?_
 simp only [Tryz.f231, tt, seval]
 refine cZ (keywords_d) (by decide) ?_ ?_ <;> simp only [tt, seval]
 refine cZ (iFold_d s hs) (by decide) ?_ ?_ <;> simp only [tt, seval]
 refine cZ (Index_d kws (foldB s)) (by decide) ?_ ?_ <;> simp only [tt, seval, kws_len]
 have h1 : -1 ≤ ixOf (foldB s) kws ∧ ixOf (foldB s) kws ≤ 28 := by
  unfold ixOf
  have := kws_len
  split <;> omega
 rw [wrap_id (n := ixOf (foldB s) kws + 1) (by omega) (by omega)]
 exact ⟨_, _, rfl, end0 rfl⟩
end Go.Proofs.YtabhiapifcanoaaGreatDoor
set_option maxRecDepth 8000
namespace Go.Proofs.YtabhiapifcanoaaGreatDoor
open Go Go.Dv
open Go.Vc (D shrI xorI andI)
def partB (b : Int) : Bool := letB b || decide (48 ≤ b ∧ b ≤ 57)
def plainN (s : ByteArray) : Bool := decide (1 ≤ s.size ∧ s.size ≤ 20) && (!decide (48 ≤ ((s.data.toList.headD 0).toNat : Int) ∧ ((s.data.toList.headD 0).toNat : Int) ≤ 57) && (decide (key s = 0) && s.data.toList.all fun b => partB b.toNat))
theorem key_ge (s : ByteArray) : 0 ≤ key s := by unfold key ixOf; split <;> omega
def quoteL (c : UInt8) (l : List UInt8) : List UInt8 := l.flatMap fun b => if b = c then [c, c] else [b]
def quoteB (c : UInt8) (s : ByteArray) : ByteArray := ⟨(c :: (quoteL c s.data.toList ++ [c])).toArray⟩
end Go.Proofs.YtabhiapifcanoaaGreatDoor
set_option maxRecDepth 8000
namespace Go.Proofs.YtabhiapifcanoaaGreatDoor
open Go Go.Dv
open Go.Vc (D shrI xorI andI)
open Go.RowKit (Below)
open Go.Vc (okV)
theorem data_append (a b : ByteArray) : (a ++ b).data.toList = a.data.toList ++ b.data.toList := by rw [ByteArray.data_append, Array.toList_append]
def one (c : UInt8) : ByteArray := ⟨#[c]⟩
theorem ba_ext {a b : ByteArray} (h : a.data.toList = b.data.toList) : a = b := by
 obtain ⟨⟨x⟩⟩ := a; obtain ⟨⟨y⟩⟩ := b
 simp only at h; rw [h]
def nameT (s : ByteArray) : ByteArray := if 1 ≤ s.size ∧ s.size ≤ 20 then (if plainN s = true then s else quoteB 34 s) else ⟨#[]⟩
end Go.Proofs.YtabhiapifcanoaaGreatDoor
set_option maxRecDepth 8000
namespace Go.Proofs.YtabhiapifcanoaaGreatDoor
open Go Go.Dv
open Go.Vc (D shrI xorI andI)
def valOk (v : Val) : Bool :=
 if v.kind = 0 then decide (v.num = 0) && decide (v.text = ⟨#[]⟩) else if v.kind = 1 then decide (v.text = ⟨#[]⟩)
 else if v.kind = 2 then decide (v.num = 0) && decide ((v.text.size : Int) ≤ 200) else if v.kind = 3 then decide (0 ≤ v.num ∧ v.num ≤ 1) && decide (v.text = ⟨#[]⟩) else false
theorem ValueOk_d (v : Val) : Cl Tryz.prog 184 [.ag (csOf v.row)] [] fun r _ => r = vb (valOk v) := by
 rw [Val.row]
 refine cl_of_d follows_mixed false Tryz.func184 rfl (by kernel_rfl) ?_
 simp only [Tryz.f184, tt, seval]
 refine And.intro (fun h0 => ?_) (fun h0 => ?_)
 ·refine And.intro (fun h => ?_) (fun h => ?_) <;> simp only [tt, seval]
  ·exact ⟨_, _, vbE (by rw [valOk, if_pos h0, h]; rfl), end0 rfl⟩
  ·exact ⟨_, _, vbE (by rw [valOk, if_pos h0, h]; rfl), end0 rfl⟩
 ·try simp only [tt, seval]
  refine And.intro (fun h1 => ?_) (fun h1 => ?_)
  ·exact ⟨_, _, vbE (by rw [valOk, if_neg h0, if_pos h1]), end0 rfl⟩
  ·try simp only [tt, seval]
   refine And.intro (fun h2 => ?_) (fun h2 => ?_)
   ·refine And.intro (fun h => ?_) (fun h => ?_) <;> simp only [tt, seval]
    ·exact fun _ => ⟨_, _, vbE (by rw [valOk, if_neg h0, if_neg h1, if_pos h2, h]; rfl), end0 rfl⟩
    ·exact ⟨_, _, vbE (by rw [valOk, if_neg h0, if_neg h1, if_pos h2, h]; rfl), end0 rfl⟩
   ·try simp only [tt, seval]
    refine And.intro (fun h3 => ?_) (fun h3 => ?_)
    ·try simp only [tt, seval]
     refine cZ (l1In_d v.num 0 1) (by decide) ?_ ?_ <;> simp only [tt, seval]
     cases hn : decide ((0 : Int) ≤ v.num ∧ v.num ≤ 1) <;> simp only [tt, seval, hn]
     ·exact ⟨_, _, vbE (by rw [valOk, if_neg h0, if_neg h1, if_neg h2, if_pos h3, hn]; rfl), end0 rfl⟩
     ·exact ⟨_, _, vbE (by rw [valOk, if_neg h0, if_neg h1, if_neg h2, if_pos h3, hn]; rfl), end0 rfl⟩
    ·exact ⟨_, _, vbE (by rw [valOk, if_neg h0, if_neg h1, if_neg h2, if_neg h3]), end0 rfl⟩
theorem iValueOk_d (v : Val) : Cl Tryz.prog 204 [.ag (csOf v.row)] [] fun r _ => r = vb (valOk v) := by
 rw [Val.row]
 refine cl_of_d follows_mixed false Tryz.func204 rfl (by kernel_rfl) ?_
 simp only [Tryz.f204, tt, seval]
 refine And.intro (fun h0 => ?_) (fun h0 => ?_)
 ·refine And.intro (fun h => ?_) (fun h => ?_) <;> simp only [tt, seval]
  ·exact ⟨_, _, vbE (by rw [valOk, if_pos h0, h]; rfl), end0 rfl⟩
  ·exact ⟨_, _, vbE (by rw [valOk, if_pos h0, h]; rfl), end0 rfl⟩
 ·try simp only [tt, seval]
  refine And.intro (fun h1 => ?_) (fun h1 => ?_)
  ·exact ⟨_, _, vbE (by rw [valOk, if_neg h0, if_pos h1]), end0 rfl⟩
  ·try simp only [tt, seval]
   refine And.intro (fun h2 => ?_) (fun h2 => ?_)
   ·refine And.intro (fun h => ?_) (fun h => ?_) <;> simp only [tt, seval]
    ·exact fun _ => ⟨_, _, vbE (by rw [valOk, if_neg h0, if_neg h1, if_pos h2, h]; rfl), end0 rfl⟩
    ·exact ⟨_, _, vbE (by rw [valOk, if_neg h0, if_neg h1, if_pos h2, h]; rfl), end0 rfl⟩
   ·try simp only [tt, seval]
    refine And.intro (fun h3 => ?_) (fun h3 => ?_)
    ·have fin : ∀ b : Bool, decide ((0 : Int) ≤ v.num ∧ v.num ≤ 1) = b → valOk v = (b && decide (v.text = ⟨#[]⟩)) := fun b hb => by rw [valOk, if_neg h0, if_neg h1, if_neg h2, if_pos h3, hb]
     by_cases hz : v.num = 0
     ·simp only [tt, seval, decide_eq_true hz]
      exact ⟨_, _, vbE (by rw [fin true (decide_eq_true (by omega))]; rfl), end0 rfl⟩
     ·simp only [tt, seval, decide_eq_false hz]
      by_cases ho : v.num = 1
      ·simp only [tt, seval, decide_eq_true ho]
       exact ⟨_, _, vbE (by rw [fin true (decide_eq_true (by omega))]; rfl), end0 rfl⟩
      ·simp only [tt, seval, decide_eq_false ho]
       exact ⟨_, _, vbE (by rw [fin false (decide_eq_false (by omega))]; rfl), end0 rfl⟩
    ·exact ⟨_, _, vbE (by rw [valOk, if_neg h0, if_neg h1, if_neg h2, if_neg h3]), end0 rfl⟩
theorem iDigits_d (n : Int) (h0 : -9223372036854775808 ≤ n) (h1 : n ≤ 9223372036854775807) : Cl Tryz.prog 226 [vi n] [] fun r _ => r = vs (itoaB n) := by
 refine cl_of_d follows_mixed false Tryz.func226 rfl (by kernel_rfl) ?_
 simp only [Tryz.f226, tt, seval]
 refine cZ (Itoa_d n h0 h1) (by decide) ?_ ?_ <;> simp only [tt, seval]
 exact ⟨_, _, rfl, end0 rfl⟩
def sg (b : Bool) (k : Nat) : Int := if b = true then -(k : Int) else k
theorem sg_mod (b : Bool) (k : Nat) : (sg b k).tmod 10 = sg b (k % 10) := by
 unfold sg; split
 ·rw [Int.neg_tmod]; rfl
 ·rfl
theorem sg_div (b : Bool) (k : Nat) : (sg b k).tdiv 10 = sg b (k / 10) := by
 unfold sg; split
 ·rw [Int.neg_tdiv]; rfl
 ·rfl
theorem sg_zero (b : Bool) (k : Nat) : sg b k = 0 ↔ k = 0 := by unfold sg; split <;> omega
def digC (k : Nat) : UInt8 := UInt8.ofNat (48 + k % 10)
theorem digC_val (k : Nat) : ((digC k).toNat : Int) = 48 + (k % 10 : Nat) := by
 unfold digC
 rw [UInt8.toNat_ofNat']
 omega
theorem decDigits_step {k : Nat} (h : k / 10 ≠ 0) : Lib.decDigits k = Lib.decDigits (k / 10) ++ [digC k] := by
 rw [Lib.decDigits, dif_neg (by omega)]; rfl
theorem decDigits_small {k : Nat} (h : k / 10 = 0) : Lib.decDigits k = [digC k] := by
 have : k % 10 = k := by omega
 rw [Lib.decDigits, dif_pos (by omega), digC, this]
theorem Digits_d (n : Int) (h0 : -9223372036854775808 ≤ n) (h1 : n ≤ 9223372036854775807) : Cl Tryz.prog 160 [vi n] [] fun r _ => r = vs (itoaB n) := by
 obtain ⟨b, hb⟩ : ∃ b, b = decide (n < 0) := ⟨_, rfl⟩
 refine cl_of_d follows_mixed false Tryz.func160 rfl (by kernel_rfl) ?_
 simp only [Tryz.f160, tt, seval]
 refine And.intro (fun hz => ?_) (fun hz => ?_)
 ·subst hz
  exact ⟨_, _, vsE (show (⟨#[48]⟩ : ByteArray) = itoaB 0 by unfold itoaB Lib.itoa; rw [if_neg (by omega), Lib.decDigits, dif_pos (by decide)]; rfl), end0 rfl⟩
 ·rw [← hb]
  refine dLoop.intro (fun f L p => ∃ (k : Nat) (o : List UInt8), f 0 = vi (sg b k) ∧ f 4 = vs ⟨o.toArray⟩ ∧ k ≤ n.natAbs ∧ Lib.decDigits n.natAbs = (if k = 0 then o else Lib.decDigits k ++ o) ∧ L = [] ∧ p = none) (fun f _ _ => (ixS (f 0)).natAbs) [] none ⟨SubO.nil _, PoSub.none _, ?_⟩ ?_
  ·simp only [tt, seval]
   refine ⟨n.natAbs, [], viE ?_, rfl, Nat.le_refl _, ?_⟩
   ·rw [sg, hb]; simp only [decide_eq_true_eq]; split <;> omega
   ·rw [if_neg (by omega), List.append_nil]
  ·rintro g L p ⟨k, o, hk, ho, hkn, hd, rfl, rfl⟩
   simp only [tt, seval] at hk ho
   have hol : o.length ≤ 20 := by
    have h2 := itoa_len h0 h1
    have h3 : (Lib.decDigits n.natAbs).length ≤ 20 := decDigits_len n.natAbs 19 (by omega)
    rw [hd] at h3
    split at h3
    ·exact h3
    ·rw [List.length_append] at h3; omega
   simp only [tt, seval, hk, ho, sg_mod, sg_div]
   refine And.intro (fun hne => ?_) (fun heq => ?_)
   ·have hk0 : k ≠ 0 := by
     simp only [Bool.not_eq_true', decide_eq_false_iff_not, sg_zero] at hne; exact hne
    have hdv := digC_val k
    refine And.intro (fun hneg => ?_) (fun hpos => ?_)
    ·have hs : sg b (k % 10) = -((k % 10 : Nat) : Int) := by
      unfold sg at hneg ⊢
      split at hneg
      ·rename_i h; rw [if_pos h]
      ·omega
     have hval : IntKind.u8.wrap (IntKind.i64.wrap (48 + IntKind.i64.wrap (0 - sg b (k % 10)))) = ((digC k).toNat : Int) := by
      rw [hs, wrap_id (n := 0 - -((k % 10 : Nat) : Int)) (by omega) (by omega), wrap_id (by omega) (by omega), IntWalk.u8_in _ (by omega), hdv]; omega
     refine ⟨by kernel_rfl, by decide, [digC k], rfl, by rw [hval]; rfl, ?_⟩
     simp only [tt, seval, hk, ho, sg_div]
     have hsz : (⟨[digC k].toArray⟩ : ByteArray).size + (⟨o.toArray⟩ : ByteArray).size = 1 + o.length := by show (List.toArray _).size + (List.toArray _).size = _; simp
     rw [pu_sadd (by rw [hsz]; omega)]
     simp only [tt, seval, hk, ho, sg_div]
     rw [wrap_id (n := sg b (k / 10)) (by rw [sg]; split <;> omega) (by rw [sg]; split <;> omega)]
     refine ⟨[], none, SubO.nil _, PoSub.none _, ⟨k / 10, digC k :: o, rfl, vsE (ba_ext (by rw [data_append]; simp)), by omega, ?_, rfl, rfl⟩, ?_⟩
     ·rw [hd, if_neg hk0]
      split
      ·rename_i h; rw [decDigits_small h]; rfl
      ·rename_i h; rw [decDigits_step h]; simp
     ·simp only [ixS, sg]; split <;> omega
    ·have hs : sg b (k % 10) = ((k % 10 : Nat) : Int) := by
      unfold sg at hpos ⊢
      split at hpos
      ·rename_i h; rw [if_pos h]; omega
      ·rename_i h; rw [if_neg h]
     have hval : IntKind.u8.wrap (IntKind.i64.wrap (48 + sg b (k % 10))) = ((digC k).toNat : Int) := by
      rw [hs, wrap_id (by omega) (by omega), IntWalk.u8_in _ (by omega), hdv]
     refine ⟨by kernel_rfl, by decide, [digC k], rfl, by rw [hval]; rfl, ?_⟩
     simp only [tt, seval, hk, ho, sg_div]
     have hsz : (⟨[digC k].toArray⟩ : ByteArray).size + (⟨o.toArray⟩ : ByteArray).size = 1 + o.length := by show (List.toArray _).size + (List.toArray _).size = _; simp
     rw [pu_sadd (by rw [hsz]; omega)]
     simp only [tt, seval, hk, ho, sg_div]
     rw [wrap_id (n := sg b (k / 10)) (by rw [sg]; split <;> omega) (by rw [sg]; split <;> omega)]
     refine ⟨[], none, SubO.nil _, PoSub.none _, ⟨k / 10, digC k :: o, rfl, vsE (ba_ext (by rw [data_append]; simp)), by omega, ?_, rfl, rfl⟩, ?_⟩
     ·rw [hd, if_neg hk0]
      split
      ·rename_i h; rw [decDigits_small h]; rfl
      ·rename_i h; rw [decDigits_step h]; simp
     ·simp only [ixS, sg]; split <;> omega
   ·have hk0 : k = 0 := by
     simp only [Bool.not_eq_false', decide_eq_true_eq, sg_zero] at heq; exact heq
    subst hk0
    rw [if_pos rfl] at hd
    refine And.intro (fun hb1 => ?_) (fun hb0 => ?_)
    ·have hn : n < 0 := by rw [hb] at hb1; exact of_decide_eq_true hb1
     have hsz : (⟨#[45]⟩ : ByteArray).size + (⟨o.toArray⟩ : ByteArray).size = 1 + o.length := by show 1 + (List.toArray _).size = _; simp
     rw [pu_sadd (by rw [hsz]; omega)]
     simp only [tt, seval]
     exact ⟨_, _, vsE (ba_ext (by rw [data_append]; simp [itoaB, Lib.itoa, hn, hd])), end0 rfl⟩
    ·have hn : ¬ n < 0 := by rw [hb] at hb0; exact of_decide_eq_false hb0
     have e : n.toNat = n.natAbs := by omega
     exact ⟨_, _, vsE (ba_ext (by simp [itoaB, Lib.itoa, hn, e, hd])), end0 rfl⟩
end Go.Proofs.YtabhiapifcanoaaGreatDoor
set_option maxRecDepth 8000
namespace Go.Proofs.YtabhiapifcanoaaGreatDoor
open Go Go.Dv
open Go.Vc (D shrI xorI andI)
open Go.Lib in
theorem decFrom_ge : ∀ (l : List UInt8) (acc m : Nat), decFrom acc l = some m → acc ≤ m
 | [], acc, m, h => by simp only [decFrom, Option.some.injEq] at h; omega
 | b :: r, acc, m, h => by
  simp only [decFrom] at h
  split at h
  ·have := decFrom_ge r _ m h; omega
  ·cases h
open Go.Lib in
theorem parse_dec : ∀ (l : List UInt8) (acc m : Nat), decFrom acc l = some m → m < 18446744073709551616 → parseUint10 acc l = .ok m
 | [], acc, m, h, _ => by simp only [decFrom, Option.some.injEq] at h; subst h; rfl
 | b :: r, acc, m, h, hm => by
  simp only [decFrom, digitVal] at h
  split at h
  ·rename_i d hd
   split at hd
   ·rename_i hb
    injection hd with hd
    have := decFrom_ge r _ m h
    simp only [parseUint10, if_pos hb]
    rw [if_neg (by omega), if_neg (by omega), hd]
    exact parse_dec r _ m h hm
   ·cases hd
  ·cases h
open Go.Lib in
theorem decFrom_snoc : ∀ (l : List UInt8) (acc : Nat) (b : UInt8), decFrom acc (l ++ [b]) = match decFrom acc l, digitVal b with | some n, some d => some (n * 10 + d) | _, _ => none
 | [], acc, b => by simp only [List.nil_append, decFrom]; cases digitVal b <;> rfl
 | c :: r, acc, b => by
  simp only [List.cons_append, decFrom]
  cases digitVal c with
  | none => rfl
  | some d => exact decFrom_snoc r _ b
open Go.Lib in
theorem digitVal_of {d : Nat} (h : d < 10) : digitVal (UInt8.ofNat (48 + d)) = some d := by
 have e : (UInt8.ofNat (48 + d)).toNat = 48 + d := by simp; omega
 unfold digitVal
 rw [e, if_pos (by omega)]
 congr 1; omega
open Go.Lib in
theorem decFrom_digits (u : Nat) : decFrom 0 (decDigits u) = some u := by
 induction u using Nat.strongRecOn with
 | ind u ih =>
  rw [decDigits]
  split
  ·rename_i h
   have := decFrom_snoc [] 0 (UInt8.ofNat (48 + u))
   rw [digitVal_of h] at this
   simpa [decFrom] using this
  ·rename_i h
   rw [decFrom_snoc, ih (u / 10) (by omega), digitVal_of (by omega)]
   simp only [Option.some.injEq]; omega
open Go.Lib in
theorem decDigits_head (u : Nat) : ∃ b r, decDigits u = b :: r ∧ 48 ≤ b.toNat ∧ b.toNat ≤ 57 := by
 induction u using Nat.strongRecOn with
 | ind u ih =>
  rw [decDigits]
  split
  ·rename_i h
   exact ⟨_, [], rfl, by simp; omega, by simp; omega⟩
  ·rename_i h
   obtain ⟨b, r, h1, h2⟩ := ih (u / 10) (by omega)
   rw [h1]
   exact ⟨b, _, rfl, h2⟩
open Go.Lib in
def numN (l : List UInt8) : Option Nat := match decFrom 0 l with
 | some m => if m < 9223372036854775808 ∧ decDigits m = l then some m else none
 | none => none
open Go.Lib in
theorem numN_some {l : List UInt8} {m : Nat} : numN l = some m ↔ m < 9223372036854775808 ∧ decDigits m = l := by
 unfold numN
 constructor
 ·intro h
  split at h
  ·split at h
   ·rename_i hc; injection h with h; subst h; exact hc
   ·cases h
  ·cases h
 ·rintro ⟨h1, rfl⟩
  rw [decFrom_digits]
  simp [h1]
open Go.Lib in
theorem itoa_nat (m : Nat) : itoa (m : Int) = decDigits m := by
 unfold itoa
 rw [if_neg (by omega)]; rfl
open Go.Lib in
theorem atoi_numN {l : List UInt8} {m : Nat} (h : numN l = some m) : atoiAll l = .ok (m : Int) := by
 obtain ⟨h1, rfl⟩ := numN_some.1 h
 obtain ⟨b, r, hb, h2, h3⟩ := decDigits_head m
 have hd := decFrom_digits m
 rw [hb] at hd ⊢
 rw [atoiAll_plain b r (by omega) (by omega)]
 unfold parseMag
 rw [if_neg (by simp), parse_dec _ _ _ hd (by omega)]
 simp only [signless]
 rw [if_neg (by omega)]
open Go.Lib in
theorem numN_atoi {l : List UInt8} {v : Int} (h : atoiAll l = .ok v) (h0 : 0 ≤ v) (hi : itoa v = l) : numN l = some v.toNat := by
 have hb := atoiAll_bounds h
 refine numN_some.2 ⟨by omega, ?_⟩
 rw [← hi]
 unfold itoa
 rw [if_neg (by omega)]
end Go.Proofs.YtabhiapifcanoaaGreatDoor
set_option maxRecDepth 8000
namespace Go.Proofs.YtabhiapifcanoaaGreatDoor
open Go Go.Dv
open Go.Vc (D shrI xorI andI)
abbrev irow (n : Int) : List D := [int n]
mutual
inductive Expr where
 | mk (kind : Int) (op : Int) (not : Bool) (val : Val) (qual : ByteArray) (name : ByteArray) (kids : List Expr) (sub : List Query)
inductive Item where
 | mk (star : Bool) (qual : ByteArray) (e : Expr) (as_ : ByteArray)
inductive Source where
 | mk (table : ByteArray) (as_ : ByteArray) (on : List Expr)
inductive SortKey where
 | mk (e : Expr) (desc : Bool)
inductive Query where
 | mk (distinct : Bool) (items : List Item) (from_ : List Source) (where_ : List Expr) (order : List SortKey) (limit : Int)
end
mutual
def Expr.row : Expr → List D
 | .mk kind op not val qual name kids sub => int kind :: int op :: bool not :: int val.kind :: int val.num :: str val.text :: str qual :: str name :: .sl kids.length (rowsExpr kids) :: .sl sub.length (rowsQuery sub) :: []
def Item.row : Item → List D
 | .mk star qual e as_ => bool star :: str qual :: (e.row ++ str as_ :: [])
def Source.row : Source → List D
 | .mk table as_ on => str table :: str as_ :: .sl on.length (rowsExpr on) :: []
def SortKey.row : SortKey → List D
 | .mk e desc => (e.row ++ bool desc :: [])
def Query.row : Query → List D
 | .mk distinct items from_ where_ order limit => bool distinct :: .sl items.length (rowsItem items) :: .sl from_.length (rowsSource from_) :: .sl where_.length (rowsExpr where_) :: .sl order.length (rowsSortKey order) :: int limit :: []
def rowsExpr : List Expr → List D
 | [] => []
 | x :: r => x.row ++ rowsExpr r
def rowsItem : List Item → List D
 | [] => []
 | x :: r => x.row ++ rowsItem r
def rowsQuery : List Query → List D
 | [] => []
 | x :: r => x.row ++ rowsQuery r
def rowsSortKey : List SortKey → List D
 | [] => []
 | x :: r => x.row ++ rowsSortKey r
def rowsSource : List Source → List D
 | [] => []
 | x :: r => x.row ++ rowsSource r
end
theorem rowsExpr_eq : ∀ l : List Expr, rowsExpr l = l.flatMap Expr.row
 | [] => by rw [rowsExpr, List.flatMap_nil]
 | x :: r => by rw [rowsExpr, List.flatMap_cons, rowsExpr_eq r]
theorem rowsItem_eq : ∀ l : List Item, rowsItem l = l.flatMap Item.row
 | [] => by rw [rowsItem, List.flatMap_nil]
 | x :: r => by rw [rowsItem, List.flatMap_cons, rowsItem_eq r]
theorem rowsQuery_eq : ∀ l : List Query, rowsQuery l = l.flatMap Query.row
 | [] => by rw [rowsQuery, List.flatMap_nil]
 | x :: r => by rw [rowsQuery, List.flatMap_cons, rowsQuery_eq r]
theorem rowsSortKey_eq : ∀ l : List SortKey, rowsSortKey l = l.flatMap SortKey.row
 | [] => by rw [rowsSortKey, List.flatMap_nil]
 | x :: r => by rw [rowsSortKey, List.flatMap_cons, rowsSortKey_eq r]
theorem rowsSource_eq : ∀ l : List Source, rowsSource l = l.flatMap Source.row
 | [] => by rw [rowsSource, List.flatMap_nil]
 | x :: r => by rw [rowsSource, List.flatMap_cons, rowsSource_eq r]
theorem Expr.row_mk (kind : Int) (op : Int) (not : Bool) (val : Val) (qual : ByteArray) (name : ByteArray) (kids : List Expr) (sub : List Query) : (Expr.mk kind op not val qual name kids sub).row = int kind :: int op :: bool not :: int val.kind :: int val.num :: str val.text :: str qual :: str name :: .sl kids.length (kids.flatMap Expr.row) :: .sl sub.length (sub.flatMap Query.row) :: [] := by rw [Expr.row]; rw [rowsExpr_eq]; rw [rowsQuery_eq]
theorem Item.row_mk (star : Bool) (qual : ByteArray) (e : Expr) (as_ : ByteArray) : (Item.mk star qual e as_).row = bool star :: str qual :: (e.row ++ str as_ :: []) := by rw [Item.row]
theorem Source.row_mk (table : ByteArray) (as_ : ByteArray) (on : List Expr) : (Source.mk table as_ on).row = str table :: str as_ :: .sl on.length (on.flatMap Expr.row) :: [] := by rw [Source.row]; rw [rowsExpr_eq]
theorem SortKey.row_mk (e : Expr) (desc : Bool) : (SortKey.mk e desc).row = (e.row ++ bool desc :: []) := by rw [SortKey.row]
theorem Query.row_mk (distinct : Bool) (items : List Item) (from_ : List Source) (where_ : List Expr) (order : List SortKey) (limit : Int) : (Query.mk distinct items from_ where_ order limit).row = bool distinct :: .sl items.length (items.flatMap Item.row) :: .sl from_.length (from_.flatMap Source.row) :: .sl where_.length (where_.flatMap Expr.row) :: .sl order.length (order.flatMap SortKey.row) :: int limit :: [] := by rw [Query.row]; rw [rowsExpr_eq]; rw [rowsItem_eq]; rw [rowsSortKey_eq]; rw [rowsSource_eq]
theorem Expr.row_len (x : Expr) : x.row.length = 10 := by cases x; simp [Expr.row]
theorem Expr.tk (x : Expr) (r : List D) : takeD 10 (x.row ++ r) = some x.row := takeD_row (Expr.row_len x)
theorem Expr.ne (x : Expr) (r : List D) : x.row ++ r ≠ [] := fun h => by have := congrArg List.length h; simp [Expr.row_len] at this
theorem Source.row_len (x : Source) : x.row.length = 3 := by cases x; simp [Source.row]
theorem Source.tk (x : Source) (r : List D) : takeD 3 (x.row ++ r) = some x.row := takeD_row (Source.row_len x)
theorem Source.ne (x : Source) (r : List D) : x.row ++ r ≠ [] := fun h => by have := congrArg List.length h; simp [Source.row_len] at this
theorem Query.row_len (x : Query) : x.row.length = 6 := by cases x; simp [Query.row]
theorem Query.tk (x : Query) (r : List D) : takeD 6 (x.row ++ r) = some x.row := takeD_row (Query.row_len x)
theorem Query.ne (x : Query) (r : List D) : x.row ++ r ≠ [] := fun h => by have := congrArg List.length h; simp [Query.row_len] at this
theorem Item.row_len (x : Item) : x.row.length = 13 := by cases x; simp [Item.row, Expr.row_len]
theorem Item.tk (x : Item) (r : List D) : takeD 13 (x.row ++ r) = some x.row := takeD_row (Item.row_len x)
theorem Item.ne (x : Item) (r : List D) : x.row ++ r ≠ [] := fun h => by have := congrArg List.length h; simp [Item.row_len] at this
theorem SortKey.row_len (x : SortKey) : x.row.length = 11 := by cases x; simp [SortKey.row, Expr.row_len]
theorem SortKey.tk (x : SortKey) (r : List D) : takeD 11 (x.row ++ r) = some x.row := takeD_row (SortKey.row_len x)
theorem SortKey.ne (x : SortKey) (r : List D) : x.row ++ r ≠ [] := fun h => by have := congrArg List.length h; simp [SortKey.row_len] at this
theorem Expr.ds (x : Expr) : dsOf (csOf x.row) = some (x.row, none) := by obtain ⟨kind, op, not, val, qual, name, kids, sub⟩ := x; rw [Expr.row_mk]; rfl
theorem Item.ds (x : Item) : dsOf (csOf x.row) = some (x.row, none) := by obtain ⟨star, qual, ⟨e_kind, e_op, e_not, e_val, e_qual, e_name, e_kids, e_sub⟩, as_⟩ := x; rw [Item.row_mk, Expr.row_mk]; rfl
theorem Source.ds (x : Source) : dsOf (csOf x.row) = some (x.row, none) := by obtain ⟨table, as_, on⟩ := x; rw [Source.row_mk]; rfl
theorem SortKey.ds (x : SortKey) : dsOf (csOf x.row) = some (x.row, none) := by obtain ⟨⟨e_kind, e_op, e_not, e_val, e_qual, e_name, e_kids, e_sub⟩, desc⟩ := x; rw [SortKey.row_mk, Expr.row_mk]; rfl
theorem Query.ds (x : Query) : dsOf (csOf x.row) = some (x.row, none) := by obtain ⟨distinct, items, from_, where_, order, limit⟩ := x; rw [Query.row_mk]; rfl
mutual
def szExpr : Expr → Nat
 | .mk kind op not val qual name kids sub => szVal val + (qual.size + (name.size + (szExprs kids + (szQuerys sub))))
def szItem : Item → Nat
 | .mk star qual e as_ => qual.size + (szExpr e + (as_.size))
def szSource : Source → Nat
 | .mk table as_ on => table.size + (as_.size + (szExprs on))
def szSortKey : SortKey → Nat
 | .mk e desc => szExpr e
def szQuery : Query → Nat
 | .mk distinct items from_ where_ order limit => szItems items + (szSources from_ + (szExprs where_ + (szSortKeys order)))
def szExprs : List Expr → Nat
 | [] => 0
 | x :: r => szExpr x + 1 + szExprs r
def szItems : List Item → Nat
 | [] => 0
 | x :: r => szItem x + 1 + szItems r
def szQuerys : List Query → Nat
 | [] => 0
 | x :: r => szQuery x + 1 + szQuerys r
def szSortKeys : List SortKey → Nat
 | [] => 0
 | x :: r => szSortKey x + 1 + szSortKeys r
def szSources : List Source → Nat
 | [] => 0
 | x :: r => szSource x + 1 + szSources r
end
theorem szExprs_eq : ∀ l : List Expr, szExprs l = l.length + (l.map szExpr).sum
 | [] => by rw [szExprs]; rfl
 | x :: r => by rw [szExprs, szExprs_eq r, List.length_cons, List.map_cons, List.sum_cons]; omega
theorem szItems_eq : ∀ l : List Item, szItems l = l.length + (l.map szItem).sum
 | [] => by rw [szItems]; rfl
 | x :: r => by rw [szItems, szItems_eq r, List.length_cons, List.map_cons, List.sum_cons]; omega
theorem szQuerys_eq : ∀ l : List Query, szQuerys l = l.length + (l.map szQuery).sum
 | [] => by rw [szQuerys]; rfl
 | x :: r => by rw [szQuerys, szQuerys_eq r, List.length_cons, List.map_cons, List.sum_cons]; omega
theorem szSortKeys_eq : ∀ l : List SortKey, szSortKeys l = l.length + (l.map szSortKey).sum
 | [] => by rw [szSortKeys]; rfl
 | x :: r => by rw [szSortKeys, szSortKeys_eq r, List.length_cons, List.map_cons, List.sum_cons]; omega
theorem szSources_eq : ∀ l : List Source, szSources l = l.length + (l.map szSource).sum
 | [] => by rw [szSources]; rfl
 | x :: r => by rw [szSources, szSources_eq r, List.length_cons, List.map_cons, List.sum_cons]; omega
theorem szExpr_mk (kind : Int) (op : Int) (not : Bool) (val : Val) (qual : ByteArray) (name : ByteArray) (kids : List Expr) (sub : List Query) : szExpr (.mk kind op not val qual name kids sub) = szVal val + (qual.size + (name.size + (szExprs kids + (szQuerys sub)))) := by rw [szExpr]
theorem szItem_mk (star : Bool) (qual : ByteArray) (e : Expr) (as_ : ByteArray) : szItem (.mk star qual e as_) = qual.size + (szExpr e + (as_.size)) := by rw [szItem]
theorem szSource_mk (table : ByteArray) (as_ : ByteArray) (on : List Expr) : szSource (.mk table as_ on) = table.size + (as_.size + (szExprs on)) := by rw [szSource]
theorem szSortKey_mk (e : Expr) (desc : Bool) : szSortKey (.mk e desc) = szExpr e := by rw [szSortKey]
theorem szQuery_mk (distinct : Bool) (items : List Item) (from_ : List Source) (where_ : List Expr) (order : List SortKey) (limit : Int) : szQuery (.mk distinct items from_ where_ order limit) = szItems items + (szSources from_ + (szExprs where_ + (szSortKeys order))) := by rw [szQuery]
theorem Expr.ind {PExpr : Expr → Prop} {PItem : Item → Prop} {PSource : Source → Prop} {PSortKey : SortKey → Prop} {PQuery : Query → Prop}
 (hExpr : ∀ kind op not val qual name kids sub, (∀ x ∈ kids, PExpr x) → (∀ x ∈ sub, PQuery x) → PExpr (.mk kind op not val qual name kids sub))
 (hItem : ∀ star qual e as_, PExpr e → PItem (.mk star qual e as_))
 (hSource : ∀ table as_ on, (∀ x ∈ on, PExpr x) → PSource (.mk table as_ on))
 (hSortKey : ∀ e desc, PExpr e → PSortKey (.mk e desc))
 (hQuery : ∀ distinct items from_ where_ order limit, (∀ x ∈ items, PItem x) → (∀ x ∈ from_, PSource x) → (∀ x ∈ where_, PExpr x) → (∀ x ∈ order, PSortKey x) → PQuery (.mk distinct items from_ where_ order limit)) : (∀ x, PExpr x) ∧ (∀ x, PItem x) ∧ (∀ x, PSource x) ∧ (∀ x, PSortKey x) ∧ (∀ x, PQuery x) := by
 suffices H : ∀ n : Nat, (∀ x : Expr, SizeOf.sizeOf x < n → PExpr x) ∧ (∀ x : Item, SizeOf.sizeOf x < n → PItem x) ∧ (∀ x : Source, SizeOf.sizeOf x < n → PSource x) ∧ (∀ x : SortKey, SizeOf.sizeOf x < n → PSortKey x) ∧ (∀ x : Query, SizeOf.sizeOf x < n → PQuery x) from
  ⟨fun x => (H _).1 x (Nat.lt_succ_self _), fun x => (H _).2.1 x (Nat.lt_succ_self _), fun x => (H _).2.2.1 x (Nat.lt_succ_self _), fun x => (H _).2.2.2.1 x (Nat.lt_succ_self _), fun x => (H _).2.2.2.2 x (Nat.lt_succ_self _)⟩
 intro n
 induction n with
 | zero => exact ⟨fun _ h => absurd h (Nat.not_lt_zero _), fun _ h => absurd h (Nat.not_lt_zero _), fun _ h => absurd h (Nat.not_lt_zero _), fun _ h => absurd h (Nat.not_lt_zero _), fun _ h => absurd h (Nat.not_lt_zero _)⟩
 | succ n ih =>
  obtain ⟨ihExpr, ihItem, ihSource, ihSortKey, ihQuery⟩ := ih
  refine ⟨?_, ?_, ?_, ?_, ?_⟩
  ·rintro ⟨kind, op, not, val, qual, name, kids, sub⟩ h
   simp only [Expr.mk.sizeOf_spec] at h
   exact hExpr _ _ _ _ _ _ _ _ (fun y hy => ihExpr y (by have := List.sizeOf_lt_of_mem hy; omega)) (fun y hy => ihQuery y (by have := List.sizeOf_lt_of_mem hy; omega))
  ·rintro ⟨star, qual, e, as_⟩ h
   simp only [Item.mk.sizeOf_spec] at h
   exact hItem _ _ _ _ (ihExpr _ (by omega))
  ·rintro ⟨table, as_, on⟩ h
   simp only [Source.mk.sizeOf_spec] at h
   exact hSource _ _ _ (fun y hy => ihExpr y (by have := List.sizeOf_lt_of_mem hy; omega))
  ·rintro ⟨e, desc⟩ h
   simp only [SortKey.mk.sizeOf_spec] at h
   exact hSortKey _ _ (ihExpr _ (by omega))
  ·rintro ⟨distinct, items, from_, where_, order, limit⟩ h
   simp only [Query.mk.sizeOf_spec] at h
   exact hQuery _ _ _ _ _ _ (fun y hy => ihItem y (by have := List.sizeOf_lt_of_mem hy; omega)) (fun y hy => ihSource y (by have := List.sizeOf_lt_of_mem hy; omega)) (fun y hy => ihExpr y (by have := List.sizeOf_lt_of_mem hy; omega)) (fun y hy => ihSortKey y (by have := List.sizeOf_lt_of_mem hy; omega))
theorem szExprs_step (a : List Expr) (hx : ∀ x ∈ a, ∀ l : Int, 0 ≤ l → l ≤ 1048576 → Cl Tryz.prog 15 [.ag (csOf x.row), vi l] [] fun r _ => r = vi (subL l (szExpr x))) (l : Int) (h0 : 0 ≤ l) (h1 : l ≤ 1048576) : Cl Tryz.prog 43 [.c (.sl a.length (a.flatMap Expr.row) none), vi l] [] fun r _ => r = vi (subL l (szExprs a)) := by
 rw [szExprs_eq]
 refine cl_of_d follows_mixed false Tryz.func43 rfl (by kernel_rfl) ?_
 simp only [Tryz.f43, tt, seval]
 refine fun hs => ?_
 rw [wrap_id (n := l - a.length) (by omega) (by omega)]
 obtain ⟨tot, htot⟩ : ∃ tot, tot = (a.map szExpr).sum := ⟨_, rfl⟩
 refine And.intro (fun h => ?_) (fun h => ?_)
 ·exact ⟨_, _, by rw [subL_gt (by omega)], end0 rfl⟩
 ·refine dLoop.intro (fun f L p => ∃ i : Nat, f 5 = vi i ∧ i ≤ a.length ∧ f 1 = vi (l - a.length - ((a.take i).map szExpr).sum) ∧ 0 ≤ l - a.length - (((a.take i).map szExpr).sum : Nat) ∧ L = [] ∧ p = none) (fun f _ _ => (a.length - ixS (f 5)).toNat) [] none ⟨SubO.nil _, PoSub.none _, ?_⟩ ?_
  ·simp only [tt, seval]
   exact ⟨0, rfl, by omega, by simp, by simp; omega⟩
  ·rintro g L p ⟨i, h5, hi, h1', hp, rfl, rfl⟩
   simp only [tt, seval] at h5 h1'
   obtain ⟨rst, hr⟩ := take_sum_le szExpr a i
   simp only [tt, seval, h5, h1', Int.ofNat_lt]
   refine fun _ => And.intro (fun hlt => ?_) (fun hge => ?_)
   ·have hlt : i < a.length := by omega
    refine ⟨by omega, by omega, _, drop_row Expr.row_len (List.getElem?_eq_getElem hlt), Expr.ne _ _, ?_⟩
    have hts := take_succ_sum szExpr hlt
    obtain ⟨rst', hr'⟩ := take_sum_le szExpr a (i + 1)
    simp only [tt, seval, h5, h1', Expr.tk, Expr.row_len]
    refine call0 (hx a[i] (List.getElem_mem hlt) _ hp (by omega)) ?_ ?_ ?_
    ·decide
    ·simp only [tt, seval]
    rintro r rfl
    simp only [tt, seval, h5, h1']
    refine And.intro (fun hneg => ?_) (fun hpos => ?_)
    ·refine ⟨_, _, ?_, end0 rfl⟩
     rw [subL_gt]
     have : ¬ ((szExpr a[i] : Int) ≤ l - a.length - ((a.take i).map szExpr).sum) := fun h => by rw [subL_le h] at hneg; omega
     omega
    ·have hle : ((szExpr a[i] : Int) ≤ l - a.length - ((a.take i).map szExpr).sum) := Int.not_lt.1 fun h => by rw [subL_gt h] at hpos; omega
     rw [subL_le hle, wrap_id (n := (i : Int) + 1) (by omega) (by omega)]
     exact ⟨[], none, SubO.nil _, PoSub.none _, ⟨i + 1, by simp, by omega, viE (by rw [hts]; omega), by rw [hts]; omega, rfl, rfl⟩, by simp only [ixS]; omega⟩
   ·have : i = a.length := by omega
    subst this
    refine ⟨_, _, ?_, end0 rfl⟩
    rw [List.take_length] at hp
    rw [List.take_length, subL_le (by omega)]
    exact viE (by omega)
theorem szItems_step (a : List Item) (hx : ∀ x ∈ a, ∀ l : Int, 0 ≤ l → l ≤ 1048576 → Cl Tryz.prog 185 [.ag (csOf x.row), vi l] [] fun r _ => r = vi (subL l (szItem x))) (l : Int) (h0 : 0 ≤ l) (h1 : l ≤ 1048576) : Cl Tryz.prog 143 [.c (.sl a.length (a.flatMap Item.row) none), vi l] [] fun r _ => r = vi (subL l (szItems a)) := by
 rw [szItems_eq]
 refine cl_of_d follows_mixed false Tryz.func143 rfl (by kernel_rfl) ?_
 simp only [Tryz.f143, tt, seval]
 refine fun hs => ?_
 rw [wrap_id (n := l - a.length) (by omega) (by omega)]
 obtain ⟨tot, htot⟩ : ∃ tot, tot = (a.map szItem).sum := ⟨_, rfl⟩
 refine And.intro (fun h => ?_) (fun h => ?_)
 ·exact ⟨_, _, by rw [subL_gt (by omega)], end0 rfl⟩
 ·refine dLoop.intro (fun f L p => ∃ i : Nat, f 5 = vi i ∧ i ≤ a.length ∧ f 1 = vi (l - a.length - ((a.take i).map szItem).sum) ∧ 0 ≤ l - a.length - (((a.take i).map szItem).sum : Nat) ∧ L = [] ∧ p = none) (fun f _ _ => (a.length - ixS (f 5)).toNat) [] none ⟨SubO.nil _, PoSub.none _, ?_⟩ ?_
  ·simp only [tt, seval]
   exact ⟨0, rfl, by omega, by simp, by simp; omega⟩
  ·rintro g L p ⟨i, h5, hi, h1', hp, rfl, rfl⟩
   simp only [tt, seval] at h5 h1'
   obtain ⟨rst, hr⟩ := take_sum_le szItem a i
   simp only [tt, seval, h5, h1', Int.ofNat_lt]
   refine fun _ => And.intro (fun hlt => ?_) (fun hge => ?_)
   ·have hlt : i < a.length := by omega
    refine ⟨by omega, by omega, _, drop_row Item.row_len (List.getElem?_eq_getElem hlt), Item.ne _ _, ?_⟩
    have hts := take_succ_sum szItem hlt
    obtain ⟨rst', hr'⟩ := take_sum_le szItem a (i + 1)
    simp only [tt, seval, h5, h1', Item.tk, Item.row_len]
    refine call0 (hx a[i] (List.getElem_mem hlt) _ hp (by omega)) ?_ ?_ ?_
    ·decide
    ·simp only [tt, seval]
    rintro r rfl
    simp only [tt, seval, h5, h1']
    refine And.intro (fun hneg => ?_) (fun hpos => ?_)
    ·refine ⟨_, _, ?_, end0 rfl⟩
     rw [subL_gt]
     have : ¬ ((szItem a[i] : Int) ≤ l - a.length - ((a.take i).map szItem).sum) := fun h => by rw [subL_le h] at hneg; omega
     omega
    ·have hle : ((szItem a[i] : Int) ≤ l - a.length - ((a.take i).map szItem).sum) := Int.not_lt.1 fun h => by rw [subL_gt h] at hpos; omega
     rw [subL_le hle, wrap_id (n := (i : Int) + 1) (by omega) (by omega)]
     exact ⟨[], none, SubO.nil _, PoSub.none _, ⟨i + 1, by simp, by omega, viE (by rw [hts]; omega), by rw [hts]; omega, rfl, rfl⟩, by simp only [ixS]; omega⟩
   ·have : i = a.length := by omega
    subst this
    refine ⟨_, _, ?_, end0 rfl⟩
    rw [List.take_length] at hp
    rw [List.take_length, subL_le (by omega)]
    exact viE (by omega)
theorem szSources_step (a : List Source) (hx : ∀ x ∈ a, ∀ l : Int, 0 ≤ l → l ≤ 1048576 → Cl Tryz.prog 186 [.ag (csOf x.row), vi l] [] fun r _ => r = vi (subL l (szSource x))) (l : Int) (h0 : 0 ≤ l) (h1 : l ≤ 1048576) : Cl Tryz.prog 144 [.c (.sl a.length (a.flatMap Source.row) none), vi l] [] fun r _ => r = vi (subL l (szSources a)) := by
 rw [szSources_eq]
 refine cl_of_d follows_mixed false Tryz.func144 rfl (by kernel_rfl) ?_
 simp only [Tryz.f144, tt, seval]
 refine fun hs => ?_
 rw [wrap_id (n := l - a.length) (by omega) (by omega)]
 obtain ⟨tot, htot⟩ : ∃ tot, tot = (a.map szSource).sum := ⟨_, rfl⟩
 refine And.intro (fun h => ?_) (fun h => ?_)
 ·exact ⟨_, _, by rw [subL_gt (by omega)], end0 rfl⟩
 ·refine dLoop.intro (fun f L p => ∃ i : Nat, f 5 = vi i ∧ i ≤ a.length ∧ f 1 = vi (l - a.length - ((a.take i).map szSource).sum) ∧ 0 ≤ l - a.length - (((a.take i).map szSource).sum : Nat) ∧ L = [] ∧ p = none) (fun f _ _ => (a.length - ixS (f 5)).toNat) [] none ⟨SubO.nil _, PoSub.none _, ?_⟩ ?_
  ·simp only [tt, seval]
   exact ⟨0, rfl, by omega, by simp, by simp; omega⟩
  ·rintro g L p ⟨i, h5, hi, h1', hp, rfl, rfl⟩
   simp only [tt, seval] at h5 h1'
   obtain ⟨rst, hr⟩ := take_sum_le szSource a i
   simp only [tt, seval, h5, h1', Int.ofNat_lt]
   refine fun _ => And.intro (fun hlt => ?_) (fun hge => ?_)
   ·have hlt : i < a.length := by omega
    refine ⟨by omega, by omega, _, drop_row Source.row_len (List.getElem?_eq_getElem hlt), Source.ne _ _, ?_⟩
    have hts := take_succ_sum szSource hlt
    obtain ⟨rst', hr'⟩ := take_sum_le szSource a (i + 1)
    simp only [tt, seval, h5, h1', Source.tk, Source.row_len]
    refine call0 (hx a[i] (List.getElem_mem hlt) _ hp (by omega)) ?_ ?_ ?_
    ·decide
    ·simp only [tt, seval]
    rintro r rfl
    simp only [tt, seval, h5, h1']
    refine And.intro (fun hneg => ?_) (fun hpos => ?_)
    ·refine ⟨_, _, ?_, end0 rfl⟩
     rw [subL_gt]
     have : ¬ ((szSource a[i] : Int) ≤ l - a.length - ((a.take i).map szSource).sum) := fun h => by rw [subL_le h] at hneg; omega
     omega
    ·have hle : ((szSource a[i] : Int) ≤ l - a.length - ((a.take i).map szSource).sum) := Int.not_lt.1 fun h => by rw [subL_gt h] at hpos; omega
     rw [subL_le hle, wrap_id (n := (i : Int) + 1) (by omega) (by omega)]
     exact ⟨[], none, SubO.nil _, PoSub.none _, ⟨i + 1, by simp, by omega, viE (by rw [hts]; omega), by rw [hts]; omega, rfl, rfl⟩, by simp only [ixS]; omega⟩
   ·have : i = a.length := by omega
    subst this
    refine ⟨_, _, ?_, end0 rfl⟩
    rw [List.take_length] at hp
    rw [List.take_length, subL_le (by omega)]
    exact viE (by omega)
theorem szSortKeys_step (a : List SortKey) (hx : ∀ x ∈ a, ∀ l : Int, 0 ≤ l → l ≤ 1048576 → Cl Tryz.prog 187 [.ag (csOf x.row), vi l] [] fun r _ => r = vi (subL l (szSortKey x))) (l : Int) (h0 : 0 ≤ l) (h1 : l ≤ 1048576) : Cl Tryz.prog 145 [.c (.sl a.length (a.flatMap SortKey.row) none), vi l] [] fun r _ => r = vi (subL l (szSortKeys a)) := by
 rw [szSortKeys_eq]
 refine cl_of_d follows_mixed false Tryz.func145 rfl (by kernel_rfl) ?_
 simp only [Tryz.f145, tt, seval]
 refine fun hs => ?_
 rw [wrap_id (n := l - a.length) (by omega) (by omega)]
 obtain ⟨tot, htot⟩ : ∃ tot, tot = (a.map szSortKey).sum := ⟨_, rfl⟩
 refine And.intro (fun h => ?_) (fun h => ?_)
 ·exact ⟨_, _, by rw [subL_gt (by omega)], end0 rfl⟩
 ·refine dLoop.intro (fun f L p => ∃ i : Nat, f 5 = vi i ∧ i ≤ a.length ∧ f 1 = vi (l - a.length - ((a.take i).map szSortKey).sum) ∧ 0 ≤ l - a.length - (((a.take i).map szSortKey).sum : Nat) ∧ L = [] ∧ p = none) (fun f _ _ => (a.length - ixS (f 5)).toNat) [] none ⟨SubO.nil _, PoSub.none _, ?_⟩ ?_
  ·simp only [tt, seval]
   exact ⟨0, rfl, by omega, by simp, by simp; omega⟩
  ·rintro g L p ⟨i, h5, hi, h1', hp, rfl, rfl⟩
   simp only [tt, seval] at h5 h1'
   obtain ⟨rst, hr⟩ := take_sum_le szSortKey a i
   simp only [tt, seval, h5, h1', Int.ofNat_lt]
   refine fun _ => And.intro (fun hlt => ?_) (fun hge => ?_)
   ·have hlt : i < a.length := by omega
    refine ⟨by omega, by omega, _, drop_row SortKey.row_len (List.getElem?_eq_getElem hlt), SortKey.ne _ _, ?_⟩
    have hts := take_succ_sum szSortKey hlt
    obtain ⟨rst', hr'⟩ := take_sum_le szSortKey a (i + 1)
    simp only [tt, seval, h5, h1', SortKey.tk, SortKey.row_len]
    refine call0 (hx a[i] (List.getElem_mem hlt) _ hp (by omega)) ?_ ?_ ?_
    ·decide
    ·simp only [tt, seval]
    rintro r rfl
    simp only [tt, seval, h5, h1']
    refine And.intro (fun hneg => ?_) (fun hpos => ?_)
    ·refine ⟨_, _, ?_, end0 rfl⟩
     rw [subL_gt]
     have : ¬ ((szSortKey a[i] : Int) ≤ l - a.length - ((a.take i).map szSortKey).sum) := fun h => by rw [subL_le h] at hneg; omega
     omega
    ·have hle : ((szSortKey a[i] : Int) ≤ l - a.length - ((a.take i).map szSortKey).sum) := Int.not_lt.1 fun h => by rw [subL_gt h] at hpos; omega
     rw [subL_le hle, wrap_id (n := (i : Int) + 1) (by omega) (by omega)]
     exact ⟨[], none, SubO.nil _, PoSub.none _, ⟨i + 1, by simp, by omega, viE (by rw [hts]; omega), by rw [hts]; omega, rfl, rfl⟩, by simp only [ixS]; omega⟩
   ·have : i = a.length := by omega
    subst this
    refine ⟨_, _, ?_, end0 rfl⟩
    rw [List.take_length] at hp
    rw [List.take_length, subL_le (by omega)]
    exact viE (by omega)
theorem szQuerys_step (a : List Query) (hx : ∀ x ∈ a, ∀ l : Int, 0 ≤ l → l ≤ 1048576 → Cl Tryz.prog 88 [.ag (csOf x.row), vi l] [] fun r _ => r = vi (subL l (szQuery x))) (l : Int) (h0 : 0 ≤ l) (h1 : l ≤ 1048576) : Cl Tryz.prog 44 [.c (.sl a.length (a.flatMap Query.row) none), vi l] [] fun r _ => r = vi (subL l (szQuerys a)) := by
 rw [szQuerys_eq]
 refine cl_of_d follows_mixed false Tryz.func44 rfl (by kernel_rfl) ?_
 simp only [Tryz.f44, tt, seval]
 refine fun hs => ?_
 rw [wrap_id (n := l - a.length) (by omega) (by omega)]
 obtain ⟨tot, htot⟩ : ∃ tot, tot = (a.map szQuery).sum := ⟨_, rfl⟩
 refine And.intro (fun h => ?_) (fun h => ?_)
 ·exact ⟨_, _, by rw [subL_gt (by omega)], end0 rfl⟩
 ·refine dLoop.intro (fun f L p => ∃ i : Nat, f 5 = vi i ∧ i ≤ a.length ∧ f 1 = vi (l - a.length - ((a.take i).map szQuery).sum) ∧ 0 ≤ l - a.length - (((a.take i).map szQuery).sum : Nat) ∧ L = [] ∧ p = none) (fun f _ _ => (a.length - ixS (f 5)).toNat) [] none ⟨SubO.nil _, PoSub.none _, ?_⟩ ?_
  ·simp only [tt, seval]
   exact ⟨0, rfl, by omega, by simp, by simp; omega⟩
  ·rintro g L p ⟨i, h5, hi, h1', hp, rfl, rfl⟩
   simp only [tt, seval] at h5 h1'
   obtain ⟨rst, hr⟩ := take_sum_le szQuery a i
   simp only [tt, seval, h5, h1', Int.ofNat_lt]
   refine fun _ => And.intro (fun hlt => ?_) (fun hge => ?_)
   ·have hlt : i < a.length := by omega
    refine ⟨by omega, by omega, _, drop_row Query.row_len (List.getElem?_eq_getElem hlt), Query.ne _ _, ?_⟩
    have hts := take_succ_sum szQuery hlt
    obtain ⟨rst', hr'⟩ := take_sum_le szQuery a (i + 1)
    simp only [tt, seval, h5, h1', Query.tk, Query.row_len]
    refine call0 (hx a[i] (List.getElem_mem hlt) _ hp (by omega)) ?_ ?_ ?_
    ·decide
    ·simp only [tt, seval]
    rintro r rfl
    simp only [tt, seval, h5, h1']
    refine And.intro (fun hneg => ?_) (fun hpos => ?_)
    ·refine ⟨_, _, ?_, end0 rfl⟩
     rw [subL_gt]
     have : ¬ ((szQuery a[i] : Int) ≤ l - a.length - ((a.take i).map szQuery).sum) := fun h => by rw [subL_le h] at hneg; omega
     omega
    ·have hle : ((szQuery a[i] : Int) ≤ l - a.length - ((a.take i).map szQuery).sum) := Int.not_lt.1 fun h => by rw [subL_gt h] at hpos; omega
     rw [subL_le hle, wrap_id (n := (i : Int) + 1) (by omega) (by omega)]
     exact ⟨[], none, SubO.nil _, PoSub.none _, ⟨i + 1, by simp, by omega, viE (by rw [hts]; omega), by rw [hts]; omega, rfl, rfl⟩, by simp only [ixS]; omega⟩
   ·have : i = a.length := by omega
    subst this
    refine ⟨_, _, ?_, end0 rfl⟩
    rw [List.take_length] at hp
    rw [List.take_length, subL_le (by omega)]
    exact viE (by omega)
theorem szExpr_step (kind : Int) (op : Int) (not : Bool) (val : Val) (qual : ByteArray) (name : ByteArray) (kids : List Expr) (sub : List Query) (hkids : ∀ l : Int, 0 ≤ l → l ≤ 1048576 → Cl Tryz.prog 43 [.c (.sl kids.length (kids.flatMap Expr.row) none), vi l] [] fun r _ => r = vi (subL l (szExprs kids))) (hsub : ∀ l : Int, 0 ≤ l → l ≤ 1048576 → Cl Tryz.prog 44 [.c (.sl sub.length (sub.flatMap Query.row) none), vi l] [] fun r _ => r = vi (subL l (szQuerys sub))) (l : Int) (h0 : 0 ≤ l) (h1 : l ≤ 1048576) : Cl Tryz.prog 15 [.ag (csOf (Expr.mk kind op not val qual name kids sub).row), vi l] [] fun r _ => r = vi (subL l (szExpr (Expr.mk kind op not val qual name kids sub))) := by
 rw [szExpr_mk, Expr.row_mk]
 refine cl_of_d follows_mixed false Tryz.func15 rfl (by kernel_rfl) ?_
 simp only [Tryz.f15, tt, seval]
 refine cZ (szValue_d val l h0 h1) (by decide) ?_ ?_ <;> simp only [tt, seval, Val.row, lc]
 refine And.intro (fun h => ?_) (fun h => ?_)
 ·exact ⟨_, _, viE (by rw [subL_neg h h0]), end0 rfl⟩
 have hp0 : 0 ≤ subL l (szVal val) := by omega
 rw [subL_add hp0]
 have hb0 := subL_bounds (s := szVal val) h0
 generalize subL l (szVal val) = l0 at *
 refine fun hs1 => ?_
 rw [wrap_id (n := l0 - qual.size) (by omega) (by omega)]
 refine And.intro (fun h => ?_) (fun h => ?_)
 ·exact ⟨_, _, viE (by rw [subL_neg (by rw [subL_gt (by omega)]; decide) hp0]), end0 rfl⟩
 rw [show (l0 - qual.size : Int) = subL l0 qual.size from (subL_le (by omega)).symm] at *
 have hp1 : 0 ≤ subL l0 (qual.size) := by omega
 rw [subL_add hp1]
 have hb1 := subL_bounds (s := qual.size) hp0
 generalize subL l0 (qual.size) = l1 at *
 refine fun hs2 => ?_
 rw [wrap_id (n := l1 - name.size) (by omega) (by omega)]
 refine And.intro (fun h => ?_) (fun h => ?_)
 ·exact ⟨_, _, viE (by rw [subL_neg (by rw [subL_gt (by omega)]; decide) hp1]), end0 rfl⟩
 rw [show (l1 - name.size : Int) = subL l1 name.size from (subL_le (by omega)).symm] at *
 have hp2 : 0 ≤ subL l1 (name.size) := by omega
 rw [subL_add hp2]
 have hb2 := subL_bounds (s := name.size) hp1
 generalize subL l1 (name.size) = l2 at *
 refine cZ (hkids l2 hp2 (by omega)) (by decide) ?_ ?_ <;> simp only [tt, seval, Val.row, lc]
 refine And.intro (fun h => ?_) (fun h => ?_)
 ·exact ⟨_, _, viE (by rw [subL_neg h hp2]), end0 rfl⟩
 have hp3 : 0 ≤ subL l2 (szExprs kids) := by omega
 rw [subL_add hp3]
 have hb3 := subL_bounds (s := szExprs kids) hp2
 generalize subL l2 (szExprs kids) = l3 at *
 refine cZ (hsub l3 hp3 (by omega)) (by decide) ?_ ?_ <;> simp only [tt, seval, Val.row, lc]
 refine And.intro (fun h => ?_) (fun h => ?_)
 ·exact ⟨_, _, viE (by have := subL_bounds (s := szQuerys sub) hp3; omega), end0 rfl⟩
 exact ⟨_, _, rfl, end0 rfl⟩
theorem szItem_step (star : Bool) (qual : ByteArray) (e : Expr) (as_ : ByteArray) (he : ∀ l : Int, 0 ≤ l → l ≤ 1048576 → Cl Tryz.prog 15 [.ag (csOf e.row), vi l] [] fun r _ => r = vi (subL l (szExpr e))) (l : Int) (h0 : 0 ≤ l) (h1 : l ≤ 1048576) : Cl Tryz.prog 185 [.ag (csOf (Item.mk star qual e as_).row), vi l] [] fun r _ => r = vi (subL l (szItem (Item.mk star qual e as_))) := by
 rw [szItem_mk, Item.row_mk]
 obtain ⟨e_kind, e_op, e_not, e_val, e_qual, e_name, e_kids, e_sub⟩ := e
 simp only [Expr.row_mk, lc]
 refine cl_of_d follows_mixed false Tryz.func185 rfl (by kernel_rfl) ?_
 simp only [Tryz.f185, tt, seval]
 refine fun hs0 => ?_
 rw [wrap_id (n := l - qual.size) (by omega) (by omega)]
 refine And.intro (fun h => ?_) (fun h => ?_)
 ·exact ⟨_, _, viE (by rw [subL_neg (by rw [subL_gt (by omega)]; decide) h0]), end0 rfl⟩
 rw [show (l - qual.size : Int) = subL l qual.size from (subL_le (by omega)).symm] at *
 have hp0 : 0 ≤ subL l (qual.size) := by omega
 rw [subL_add hp0]
 have hb0 := subL_bounds (s := qual.size) h0
 generalize subL l (qual.size) = l0 at *
 refine cZ (he l0 hp0 (by omega)) (by decide) ?_ ?_ <;> simp only [tt, seval, Val.row, lc, Expr.row_mk]
 refine And.intro (fun h => ?_) (fun h => ?_)
 ·exact ⟨_, _, viE (by rw [subL_neg h hp0]), end0 rfl⟩
 have hp1 : 0 ≤ subL l0 (szExpr (Expr.mk e_kind e_op e_not e_val e_qual e_name e_kids e_sub)) := by omega
 rw [subL_add hp1]
 have hb1 := subL_bounds (s := szExpr (Expr.mk e_kind e_op e_not e_val e_qual e_name e_kids e_sub)) hp0
 generalize subL l0 (szExpr (Expr.mk e_kind e_op e_not e_val e_qual e_name e_kids e_sub)) = l1 at *
 refine fun hs2 => ?_
 rw [wrap_id (n := l1 - as_.size) (by omega) (by omega)]
 refine And.intro (fun h => ?_) (fun h => ?_)
 ·exact ⟨_, _, viE (by rw [subL_gt (by omega)]), end0 rfl⟩
 rw [show (l1 - as_.size : Int) = subL l1 as_.size from (subL_le (by omega)).symm] at *
 exact ⟨_, _, rfl, end0 rfl⟩
theorem szSource_step (table : ByteArray) (as_ : ByteArray) (on : List Expr) (hon : ∀ l : Int, 0 ≤ l → l ≤ 1048576 → Cl Tryz.prog 43 [.c (.sl on.length (on.flatMap Expr.row) none), vi l] [] fun r _ => r = vi (subL l (szExprs on))) (l : Int) (h0 : 0 ≤ l) (h1 : l ≤ 1048576) : Cl Tryz.prog 186 [.ag (csOf (Source.mk table as_ on).row), vi l] [] fun r _ => r = vi (subL l (szSource (Source.mk table as_ on))) := by
 rw [szSource_mk, Source.row_mk]
 refine cl_of_d follows_mixed false Tryz.func186 rfl (by kernel_rfl) ?_
 simp only [Tryz.f186, tt, seval]
 refine fun hs0 => ?_
 rw [wrap_id (n := l - table.size) (by omega) (by omega)]
 refine And.intro (fun h => ?_) (fun h => ?_)
 ·exact ⟨_, _, viE (by rw [subL_neg (by rw [subL_gt (by omega)]; decide) h0]), end0 rfl⟩
 rw [show (l - table.size : Int) = subL l table.size from (subL_le (by omega)).symm] at *
 have hp0 : 0 ≤ subL l (table.size) := by omega
 rw [subL_add hp0]
 have hb0 := subL_bounds (s := table.size) h0
 generalize subL l (table.size) = l0 at *
 refine fun hs1 => ?_
 rw [wrap_id (n := l0 - as_.size) (by omega) (by omega)]
 refine And.intro (fun h => ?_) (fun h => ?_)
 ·exact ⟨_, _, viE (by rw [subL_neg (by rw [subL_gt (by omega)]; decide) hp0]), end0 rfl⟩
 rw [show (l0 - as_.size : Int) = subL l0 as_.size from (subL_le (by omega)).symm] at *
 have hp1 : 0 ≤ subL l0 (as_.size) := by omega
 rw [subL_add hp1]
 have hb1 := subL_bounds (s := as_.size) hp0
 generalize subL l0 (as_.size) = l1 at *
 refine cZ (hon l1 hp1 (by omega)) (by decide) ?_ ?_ <;> simp only [tt, seval, Val.row, lc]
 refine And.intro (fun h => ?_) (fun h => ?_)
 ·exact ⟨_, _, viE (by have := subL_bounds (s := szExprs on) hp1; omega), end0 rfl⟩
 exact ⟨_, _, rfl, end0 rfl⟩
theorem szSortKey_step (e : Expr) (desc : Bool) (he : ∀ l : Int, 0 ≤ l → l ≤ 1048576 → Cl Tryz.prog 15 [.ag (csOf e.row), vi l] [] fun r _ => r = vi (subL l (szExpr e))) (l : Int) (h0 : 0 ≤ l) (h1 : l ≤ 1048576) : Cl Tryz.prog 187 [.ag (csOf (SortKey.mk e desc).row), vi l] [] fun r _ => r = vi (subL l (szSortKey (SortKey.mk e desc))) := by
 rw [szSortKey_mk, SortKey.row_mk]
 obtain ⟨e_kind, e_op, e_not, e_val, e_qual, e_name, e_kids, e_sub⟩ := e
 simp only [Expr.row_mk, lc]
 refine cl_of_d follows_mixed false Tryz.func187 rfl (by kernel_rfl) ?_
 simp only [Tryz.f187, tt, seval]
 refine cZ (he l h0 h1) (by decide) ?_ ?_ <;> simp only [tt, seval, Val.row, lc, Expr.row_mk]
 refine And.intro (fun h => ?_) (fun h => ?_)
 ·exact ⟨_, _, viE (by have := subL_bounds (s := szExpr (Expr.mk e_kind e_op e_not e_val e_qual e_name e_kids e_sub)) h0; omega), end0 rfl⟩
 exact ⟨_, _, rfl, end0 rfl⟩
theorem szQuery_step (distinct : Bool) (items : List Item) (from_ : List Source) (where_ : List Expr) (order : List SortKey) (limit : Int) (hitems : ∀ l : Int, 0 ≤ l → l ≤ 1048576 → Cl Tryz.prog 143 [.c (.sl items.length (items.flatMap Item.row) none), vi l] [] fun r _ => r = vi (subL l (szItems items))) (hfrom_ : ∀ l : Int, 0 ≤ l → l ≤ 1048576 → Cl Tryz.prog 144 [.c (.sl from_.length (from_.flatMap Source.row) none), vi l] [] fun r _ => r = vi (subL l (szSources from_))) (hwhere_ : ∀ l : Int, 0 ≤ l → l ≤ 1048576 → Cl Tryz.prog 43 [.c (.sl where_.length (where_.flatMap Expr.row) none), vi l] [] fun r _ => r = vi (subL l (szExprs where_))) (horder : ∀ l : Int, 0 ≤ l → l ≤ 1048576 → Cl Tryz.prog 145 [.c (.sl order.length (order.flatMap SortKey.row) none), vi l] [] fun r _ => r = vi (subL l (szSortKeys order))) (l : Int) (h0 : 0 ≤ l) (h1 : l ≤ 1048576) : Cl Tryz.prog 88 [.ag (csOf (Query.mk distinct items from_ where_ order limit).row), vi l] [] fun r _ => r = vi (subL l (szQuery (Query.mk distinct items from_ where_ order limit))) := by
 rw [szQuery_mk, Query.row_mk]
 refine cl_of_d follows_mixed false Tryz.func88 rfl (by kernel_rfl) ?_
 simp only [Tryz.f88, tt, seval]
 refine cZ (hitems l h0 h1) (by decide) ?_ ?_ <;> simp only [tt, seval, Val.row, lc]
 refine And.intro (fun h => ?_) (fun h => ?_)
 ·exact ⟨_, _, viE (by rw [subL_neg h h0]), end0 rfl⟩
 have hp0 : 0 ≤ subL l (szItems items) := by omega
 rw [subL_add hp0]
 have hb0 := subL_bounds (s := szItems items) h0
 generalize subL l (szItems items) = l0 at *
 refine cZ (hfrom_ l0 hp0 (by omega)) (by decide) ?_ ?_ <;> simp only [tt, seval, Val.row, lc]
 refine And.intro (fun h => ?_) (fun h => ?_)
 ·exact ⟨_, _, viE (by rw [subL_neg h hp0]), end0 rfl⟩
 have hp1 : 0 ≤ subL l0 (szSources from_) := by omega
 rw [subL_add hp1]
 have hb1 := subL_bounds (s := szSources from_) hp0
 generalize subL l0 (szSources from_) = l1 at *
 refine cZ (hwhere_ l1 hp1 (by omega)) (by decide) ?_ ?_ <;> simp only [tt, seval, Val.row, lc]
 refine And.intro (fun h => ?_) (fun h => ?_)
 ·exact ⟨_, _, viE (by rw [subL_neg h hp1]), end0 rfl⟩
 have hp2 : 0 ≤ subL l1 (szExprs where_) := by omega
 rw [subL_add hp2]
 have hb2 := subL_bounds (s := szExprs where_) hp1
 generalize subL l1 (szExprs where_) = l2 at *
 refine cZ (horder l2 hp2 (by omega)) (by decide) ?_ ?_ <;> simp only [tt, seval, Val.row, lc]
 refine And.intro (fun h => ?_) (fun h => ?_)
 ·exact ⟨_, _, viE (by have := subL_bounds (s := szSortKeys order) hp2; omega), end0 rfl⟩
 exact ⟨_, _, rfl, end0 rfl⟩
theorem szExpr_all : (∀ a : Expr, ∀ l : Int, 0 ≤ l → l ≤ 1048576 → Cl Tryz.prog 15 [.ag (csOf a.row), vi l] [] fun r _ => r = vi (subL l (szExpr a))) ∧ (∀ a : Item, ∀ l : Int, 0 ≤ l → l ≤ 1048576 → Cl Tryz.prog 185 [.ag (csOf a.row), vi l] [] fun r _ => r = vi (subL l (szItem a))) ∧ (∀ a : Source, ∀ l : Int, 0 ≤ l → l ≤ 1048576 → Cl Tryz.prog 186 [.ag (csOf a.row), vi l] [] fun r _ => r = vi (subL l (szSource a))) ∧ (∀ a : SortKey, ∀ l : Int, 0 ≤ l → l ≤ 1048576 → Cl Tryz.prog 187 [.ag (csOf a.row), vi l] [] fun r _ => r = vi (subL l (szSortKey a))) ∧ (∀ a : Query, ∀ l : Int, 0 ≤ l → l ≤ 1048576 → Cl Tryz.prog 88 [.ag (csOf a.row), vi l] [] fun r _ => r = vi (subL l (szQuery a))) := by
 refine Expr.ind ?_ ?_ ?_ ?_ ?_
 ·intro kind op not val qual name kids sub hkids hsub
  exact szExpr_step _ _ _ _ _ _ _ _ (szExprs_step _ hkids) (szQuerys_step _ hsub)
 ·intro star qual e as_ he
  exact szItem_step _ _ _ _ he
 ·intro table as_ on hon
  exact szSource_step _ _ _ (szExprs_step _ hon)
 ·intro e desc he
  exact szSortKey_step _ _ he
 ·intro distinct items from_ where_ order limit hitems hfrom_ hwhere_ horder
  exact szQuery_step _ _ _ _ _ _ (szItems_step _ hitems) (szSources_step _ hfrom_) (szExprs_step _ hwhere_) (szSortKeys_step _ horder)
theorem szExpr_d (a : Expr) (l : Int) (h0 : 0 ≤ l) (h1 : l ≤ 1048576) : Cl Tryz.prog 15 [.ag (csOf a.row), vi l] [] fun r _ => r = vi (subL l (szExpr a)) := szExpr_all.1 a l h0 h1
theorem toExprs_step (a : List Expr) (hx : ∀ x ∈ a, szExpr x ≤ 1048576 → Cl Tryz.prog 18 [.ag (csOf x.row)] [] fun r _ => r = .ag (csOf x.row)) (h : szExprs a ≤ 1048576) : Cl Tryz.prog 49 [.c (.sl a.length (a.flatMap Expr.row) none)] [] fun r _ => r = .c (.sl a.length (a.flatMap Expr.row) none) := by
 rw [szExprs_eq] at h
 have hl : a.length ≤ 1048576 := by omega
 refine cl_of_d follows_mixed false Tryz.func49 rfl (by kernel_rfl) ?_
 simp only [Tryz.f49, tt, seval]
 refine fun _ => ⟨by omega, by omega, by omega, ?_⟩
 refine dLoop.intro (fun f L p => ∃ i : Nat, f 4 = vi i ∧ i ≤ a.length ∧ L = [(7, .arr 32 a.length ((a.take i).flatMap Expr.row ++ (List.replicate (a.length - i) [int 0, int 0, bool false, int 0, int 0, str ByteArray.empty, str ByteArray.empty, str ByteArray.empty, .sl 0 [], .sl 0 []]).flatten) none)] ∧ p = none) (fun f _ _ => (a.length - ixS (f 4)).toNat) [(7, .arr 32 a.length (List.replicate a.length [int 0, int 0, bool false, int 0, int 0, str ByteArray.empty, str ByteArray.empty, str ByteArray.empty, .sl 0 [], .sl 0 []]).flatten none)] none ⟨SubO.cons rfl (SubO.nil _), PoSub.none _, ?_⟩ ?_
 ·simp only [tt, seval]
  exact ⟨0, rfl, by omega, by simp⟩
 ·rintro g L p ⟨i, h4, hi, rfl, rfl⟩
  simp only [tt, seval] at h4
  simp only [tt, seval, h4, Int.ofNat_lt]
  refine fun _ => And.intro (fun hlt => ?_) (fun hge => ?_)
  ·have hlt : i < a.length := by omega
   have hts := take_succ_sum szExpr hlt
   obtain ⟨rst', hr'⟩ := take_sum_le szExpr a (i + 1)
   refine ⟨by omega, by omega, _, drop_row Expr.row_len (List.getElem?_eq_getElem hlt), Expr.ne _ _, ?_⟩
   simp only [tt, seval, h4, Expr.tk, Expr.row_len]
   refine call0 (hx a[i] (List.getElem_mem hlt) (by omega)) ?_ ?_ ?_
   ·decide
   ·simp only [tt, seval]
   rintro r rfl
   simp only [tt, seval, h4, Expr.ds, Expr.row_len]
   refine ⟨by omega, by omega, by rw [fillLen Expr.row_len rfl a (by omega)]; omega, ?_⟩
   rw [wrS i (by omega)]
   exact ⟨_, none, SubO.cons rfl (SubO.nil _), PoSub.none _, ⟨i + 1, rfl, by omega, congrArg (fun x => [(7, O.arr 32 a.length x none)]) (fillRow Expr.row_len rfl hlt), rfl⟩, by simp only [ixS]; omega⟩
  ·have : i = a.length := by omega
   subst this
   rw [fillLast]
   refine ⟨_, [], rfl, endOk ?_⟩
   simp only [tt, seval]
theorem toItems_step (a : List Item) (hx : ∀ x ∈ a, szItem x ≤ 1048576 → Cl Tryz.prog 188 [.ag (csOf x.row)] [] fun r _ => r = .ag (csOf x.row)) (h : szItems a ≤ 1048576) : Cl Tryz.prog 152 [.c (.sl a.length (a.flatMap Item.row) none)] [] fun r _ => r = .c (.sl a.length (a.flatMap Item.row) none) := by
 rw [szItems_eq] at h
 have hl : a.length ≤ 1048576 := by omega
 refine cl_of_d follows_mixed false Tryz.func152 rfl (by kernel_rfl) ?_
 simp only [Tryz.f152, tt, seval]
 refine fun _ => ⟨by omega, by omega, by omega, ?_⟩
 refine dLoop.intro (fun f L p => ∃ i : Nat, f 4 = vi i ∧ i ≤ a.length ∧ L = [(7, .arr 130 a.length ((a.take i).flatMap Item.row ++ (List.replicate (a.length - i) [bool false, str ByteArray.empty, int 0, int 0, bool false, int 0, int 0, str ByteArray.empty, str ByteArray.empty, str ByteArray.empty, .sl 0 [], .sl 0 [], str ByteArray.empty]).flatten) none)] ∧ p = none) (fun f _ _ => (a.length - ixS (f 4)).toNat) [(7, .arr 130 a.length (List.replicate a.length [bool false, str ByteArray.empty, int 0, int 0, bool false, int 0, int 0, str ByteArray.empty, str ByteArray.empty, str ByteArray.empty, .sl 0 [], .sl 0 [], str ByteArray.empty]).flatten none)] none ⟨SubO.cons rfl (SubO.nil _), PoSub.none _, ?_⟩ ?_
 ·simp only [tt, seval]
  exact ⟨0, rfl, by omega, by simp⟩
 ·rintro g L p ⟨i, h4, hi, rfl, rfl⟩
  simp only [tt, seval] at h4
  simp only [tt, seval, h4, Int.ofNat_lt]
  refine fun _ => And.intro (fun hlt => ?_) (fun hge => ?_)
  ·have hlt : i < a.length := by omega
   have hts := take_succ_sum szItem hlt
   obtain ⟨rst', hr'⟩ := take_sum_le szItem a (i + 1)
   refine ⟨by omega, by omega, _, drop_row Item.row_len (List.getElem?_eq_getElem hlt), Item.ne _ _, ?_⟩
   simp only [tt, seval, h4, Item.tk, Item.row_len]
   refine call0 (hx a[i] (List.getElem_mem hlt) (by omega)) ?_ ?_ ?_
   ·decide
   ·simp only [tt, seval]
   rintro r rfl
   simp only [tt, seval, h4, Item.ds, Item.row_len]
   refine ⟨by omega, by omega, by rw [fillLen Item.row_len rfl a (by omega)]; omega, ?_⟩
   rw [wrS i (by omega)]
   exact ⟨_, none, SubO.cons rfl (SubO.nil _), PoSub.none _, ⟨i + 1, rfl, by omega, congrArg (fun x => [(7, O.arr 130 a.length x none)]) (fillRow Item.row_len rfl hlt), rfl⟩, by simp only [ixS]; omega⟩
  ·have : i = a.length := by omega
   subst this
   rw [fillLast]
   refine ⟨_, [], rfl, endOk ?_⟩
   simp only [tt, seval]
theorem toSources_step (a : List Source) (hx : ∀ x ∈ a, szSource x ≤ 1048576 → Cl Tryz.prog 189 [.ag (csOf x.row)] [] fun r _ => r = .ag (csOf x.row)) (h : szSources a ≤ 1048576) : Cl Tryz.prog 153 [.c (.sl a.length (a.flatMap Source.row) none)] [] fun r _ => r = .c (.sl a.length (a.flatMap Source.row) none) := by
 rw [szSources_eq] at h
 have hl : a.length ≤ 1048576 := by omega
 refine cl_of_d follows_mixed false Tryz.func153 rfl (by kernel_rfl) ?_
 simp only [Tryz.f153, tt, seval]
 refine fun _ => ⟨by omega, by omega, by omega, ?_⟩
 refine dLoop.intro (fun f L p => ∃ i : Nat, f 4 = vi i ∧ i ≤ a.length ∧ L = [(7, .arr 132 a.length ((a.take i).flatMap Source.row ++ (List.replicate (a.length - i) [str ByteArray.empty, str ByteArray.empty, .sl 0 []]).flatten) none)] ∧ p = none) (fun f _ _ => (a.length - ixS (f 4)).toNat) [(7, .arr 132 a.length (List.replicate a.length [str ByteArray.empty, str ByteArray.empty, .sl 0 []]).flatten none)] none ⟨SubO.cons rfl (SubO.nil _), PoSub.none _, ?_⟩ ?_
 ·simp only [tt, seval]
  exact ⟨0, rfl, by omega, by simp⟩
 ·rintro g L p ⟨i, h4, hi, rfl, rfl⟩
  simp only [tt, seval] at h4
  simp only [tt, seval, h4, Int.ofNat_lt]
  refine fun _ => And.intro (fun hlt => ?_) (fun hge => ?_)
  ·have hlt : i < a.length := by omega
   have hts := take_succ_sum szSource hlt
   obtain ⟨rst', hr'⟩ := take_sum_le szSource a (i + 1)
   refine ⟨by omega, by omega, _, drop_row Source.row_len (List.getElem?_eq_getElem hlt), Source.ne _ _, ?_⟩
   simp only [tt, seval, h4, Source.tk, Source.row_len]
   refine call0 (hx a[i] (List.getElem_mem hlt) (by omega)) ?_ ?_ ?_
   ·decide
   ·simp only [tt, seval]
   rintro r rfl
   simp only [tt, seval, h4, Source.ds, Source.row_len]
   refine ⟨by omega, by omega, by rw [fillLen Source.row_len rfl a (by omega)]; omega, ?_⟩
   rw [wrS i (by omega)]
   exact ⟨_, none, SubO.cons rfl (SubO.nil _), PoSub.none _, ⟨i + 1, rfl, by omega, congrArg (fun x => [(7, O.arr 132 a.length x none)]) (fillRow Source.row_len rfl hlt), rfl⟩, by simp only [ixS]; omega⟩
  ·have : i = a.length := by omega
   subst this
   rw [fillLast]
   refine ⟨_, [], rfl, endOk ?_⟩
   simp only [tt, seval]
theorem toSortKeys_step (a : List SortKey) (hx : ∀ x ∈ a, szSortKey x ≤ 1048576 → Cl Tryz.prog 190 [.ag (csOf x.row)] [] fun r _ => r = .ag (csOf x.row)) (h : szSortKeys a ≤ 1048576) : Cl Tryz.prog 154 [.c (.sl a.length (a.flatMap SortKey.row) none)] [] fun r _ => r = .c (.sl a.length (a.flatMap SortKey.row) none) := by
 rw [szSortKeys_eq] at h
 have hl : a.length ≤ 1048576 := by omega
 refine cl_of_d follows_mixed false Tryz.func154 rfl (by kernel_rfl) ?_
 simp only [Tryz.f154, tt, seval]
 refine fun _ => ⟨by omega, by omega, by omega, ?_⟩
 refine dLoop.intro (fun f L p => ∃ i : Nat, f 4 = vi i ∧ i ≤ a.length ∧ L = [(7, .arr 134 a.length ((a.take i).flatMap SortKey.row ++ (List.replicate (a.length - i) [int 0, int 0, bool false, int 0, int 0, str ByteArray.empty, str ByteArray.empty, str ByteArray.empty, .sl 0 [], .sl 0 [], bool false]).flatten) none)] ∧ p = none) (fun f _ _ => (a.length - ixS (f 4)).toNat) [(7, .arr 134 a.length (List.replicate a.length [int 0, int 0, bool false, int 0, int 0, str ByteArray.empty, str ByteArray.empty, str ByteArray.empty, .sl 0 [], .sl 0 [], bool false]).flatten none)] none ⟨SubO.cons rfl (SubO.nil _), PoSub.none _, ?_⟩ ?_
 ·simp only [tt, seval]
  exact ⟨0, rfl, by omega, by simp⟩
 ·rintro g L p ⟨i, h4, hi, rfl, rfl⟩
  simp only [tt, seval] at h4
  simp only [tt, seval, h4, Int.ofNat_lt]
  refine fun _ => And.intro (fun hlt => ?_) (fun hge => ?_)
  ·have hlt : i < a.length := by omega
   have hts := take_succ_sum szSortKey hlt
   obtain ⟨rst', hr'⟩ := take_sum_le szSortKey a (i + 1)
   refine ⟨by omega, by omega, _, drop_row SortKey.row_len (List.getElem?_eq_getElem hlt), SortKey.ne _ _, ?_⟩
   simp only [tt, seval, h4, SortKey.tk, SortKey.row_len]
   refine call0 (hx a[i] (List.getElem_mem hlt) (by omega)) ?_ ?_ ?_
   ·decide
   ·simp only [tt, seval]
   rintro r rfl
   simp only [tt, seval, h4, SortKey.ds, SortKey.row_len]
   refine ⟨by omega, by omega, by rw [fillLen SortKey.row_len rfl a (by omega)]; omega, ?_⟩
   rw [wrS i (by omega)]
   exact ⟨_, none, SubO.cons rfl (SubO.nil _), PoSub.none _, ⟨i + 1, rfl, by omega, congrArg (fun x => [(7, O.arr 134 a.length x none)]) (fillRow SortKey.row_len rfl hlt), rfl⟩, by simp only [ixS]; omega⟩
  ·have : i = a.length := by omega
   subst this
   rw [fillLast]
   refine ⟨_, [], rfl, endOk ?_⟩
   simp only [tt, seval]
theorem toQuerys_step (a : List Query) (hx : ∀ x ∈ a, szQuery x ≤ 1048576 → Cl Tryz.prog 96 [.ag (csOf x.row)] [] fun r _ => r = .ag (csOf x.row)) (h : szQuerys a ≤ 1048576) : Cl Tryz.prog 50 [.c (.sl a.length (a.flatMap Query.row) none)] [] fun r _ => r = .c (.sl a.length (a.flatMap Query.row) none) := by
 rw [szQuerys_eq] at h
 have hl : a.length ≤ 1048576 := by omega
 refine cl_of_d follows_mixed false Tryz.func50 rfl (by kernel_rfl) ?_
 simp only [Tryz.f50, tt, seval]
 refine fun _ => ⟨by omega, by omega, by omega, ?_⟩
 refine dLoop.intro (fun f L p => ∃ i : Nat, f 4 = vi i ∧ i ≤ a.length ∧ L = [(7, .arr 94 a.length ((a.take i).flatMap Query.row ++ (List.replicate (a.length - i) [bool false, .sl 0 [], .sl 0 [], .sl 0 [], .sl 0 [], int 0]).flatten) none)] ∧ p = none) (fun f _ _ => (a.length - ixS (f 4)).toNat) [(7, .arr 94 a.length (List.replicate a.length [bool false, .sl 0 [], .sl 0 [], .sl 0 [], .sl 0 [], int 0]).flatten none)] none ⟨SubO.cons rfl (SubO.nil _), PoSub.none _, ?_⟩ ?_
 ·simp only [tt, seval]
  exact ⟨0, rfl, by omega, by simp⟩
 ·rintro g L p ⟨i, h4, hi, rfl, rfl⟩
  simp only [tt, seval] at h4
  simp only [tt, seval, h4, Int.ofNat_lt]
  refine fun _ => And.intro (fun hlt => ?_) (fun hge => ?_)
  ·have hlt : i < a.length := by omega
   have hts := take_succ_sum szQuery hlt
   obtain ⟨rst', hr'⟩ := take_sum_le szQuery a (i + 1)
   refine ⟨by omega, by omega, _, drop_row Query.row_len (List.getElem?_eq_getElem hlt), Query.ne _ _, ?_⟩
   simp only [tt, seval, h4, Query.tk, Query.row_len]
   refine call0 (hx a[i] (List.getElem_mem hlt) (by omega)) ?_ ?_ ?_
   ·decide
   ·simp only [tt, seval]
   rintro r rfl
   simp only [tt, seval, h4, Query.ds, Query.row_len]
   refine ⟨by omega, by omega, by rw [fillLen Query.row_len rfl a (by omega)]; omega, ?_⟩
   rw [wrS i (by omega)]
   exact ⟨_, none, SubO.cons rfl (SubO.nil _), PoSub.none _, ⟨i + 1, rfl, by omega, congrArg (fun x => [(7, O.arr 94 a.length x none)]) (fillRow Query.row_len rfl hlt), rfl⟩, by simp only [ixS]; omega⟩
  ·have : i = a.length := by omega
   subst this
   rw [fillLast]
   refine ⟨_, [], rfl, endOk ?_⟩
   simp only [tt, seval]
theorem toExpr_step (kind : Int) (op : Int) (not : Bool) (val : Val) (qual : ByteArray) (name : ByteArray) (kids : List Expr) (sub : List Query) (hkids : szExprs kids ≤ 1048576 → Cl Tryz.prog 49 [.c (.sl kids.length (kids.flatMap Expr.row) none)] [] fun r _ => r = .c (.sl kids.length (kids.flatMap Expr.row) none)) (hsub : szQuerys sub ≤ 1048576 → Cl Tryz.prog 50 [.c (.sl sub.length (sub.flatMap Query.row) none)] [] fun r _ => r = .c (.sl sub.length (sub.flatMap Query.row) none)) (h : szExpr (Expr.mk kind op not val qual name kids sub) ≤ 1048576) : Cl Tryz.prog 18 [.ag (csOf (Expr.mk kind op not val qual name kids sub).row)] [] fun r _ => r = .ag (csOf (Expr.mk kind op not val qual name kids sub).row) := by
 rw [szExpr_mk] at h
 rw [Expr.row_mk]
 refine cl_of_d follows_mixed false Tryz.func18 rfl (by kernel_rfl) ?_
 simp only [Tryz.f18, tt, seval]
 refine cZ (toValue_d val) (by decide) ?_ ?_ <;> simp only [tt, seval, Val.row, lc]
 refine cZ (hkids (by omega)) (by decide) ?_ ?_ <;> simp only [tt, seval, Val.row, lc]
 refine cZ (hsub (by omega)) (by decide) ?_ ?_ <;> simp only [tt, seval, Val.row, lc]
 exact ⟨_, _, rfl, end0 rfl⟩
theorem toItem_step (star : Bool) (qual : ByteArray) (e : Expr) (as_ : ByteArray) (he : szExpr e ≤ 1048576 → Cl Tryz.prog 18 [.ag (csOf e.row)] [] fun r _ => r = .ag (csOf e.row)) (h : szItem (Item.mk star qual e as_) ≤ 1048576) : Cl Tryz.prog 188 [.ag (csOf (Item.mk star qual e as_).row)] [] fun r _ => r = .ag (csOf (Item.mk star qual e as_).row) := by
 rw [szItem_mk] at h
 rw [Item.row_mk]
 obtain ⟨e_kind, e_op, e_not, e_val, e_qual, e_name, e_kids, e_sub⟩ := e
 simp only [Expr.row_mk, lc]
 refine cl_of_d follows_mixed false Tryz.func188 rfl (by kernel_rfl) ?_
 simp only [Tryz.f188, tt, seval]
 refine cZ (he (by omega)) (by decide) ?_ ?_ <;> simp only [tt, seval, Val.row, lc, Expr.row_mk]
 exact ⟨_, _, rfl, end0 rfl⟩
theorem toSource_step (table : ByteArray) (as_ : ByteArray) (on : List Expr) (hon : szExprs on ≤ 1048576 → Cl Tryz.prog 49 [.c (.sl on.length (on.flatMap Expr.row) none)] [] fun r _ => r = .c (.sl on.length (on.flatMap Expr.row) none)) (h : szSource (Source.mk table as_ on) ≤ 1048576) : Cl Tryz.prog 189 [.ag (csOf (Source.mk table as_ on).row)] [] fun r _ => r = .ag (csOf (Source.mk table as_ on).row) := by
 rw [szSource_mk] at h
 rw [Source.row_mk]
 refine cl_of_d follows_mixed false Tryz.func189 rfl (by kernel_rfl) ?_
 simp only [Tryz.f189, tt, seval]
 refine cZ (hon (by omega)) (by decide) ?_ ?_ <;> simp only [tt, seval, Val.row, lc]
 exact ⟨_, _, rfl, end0 rfl⟩
theorem toSortKey_step (e : Expr) (desc : Bool) (he : szExpr e ≤ 1048576 → Cl Tryz.prog 18 [.ag (csOf e.row)] [] fun r _ => r = .ag (csOf e.row)) (h : szSortKey (SortKey.mk e desc) ≤ 1048576) : Cl Tryz.prog 190 [.ag (csOf (SortKey.mk e desc).row)] [] fun r _ => r = .ag (csOf (SortKey.mk e desc).row) := by
 rw [szSortKey_mk] at h
 rw [SortKey.row_mk]
 obtain ⟨e_kind, e_op, e_not, e_val, e_qual, e_name, e_kids, e_sub⟩ := e
 simp only [Expr.row_mk, lc]
 refine cl_of_d follows_mixed false Tryz.func190 rfl (by kernel_rfl) ?_
 simp only [Tryz.f190, tt, seval]
 refine cZ (he (by omega)) (by decide) ?_ ?_ <;> simp only [tt, seval, Val.row, lc, Expr.row_mk]
 exact ⟨_, _, rfl, end0 rfl⟩
theorem toQuery_step (distinct : Bool) (items : List Item) (from_ : List Source) (where_ : List Expr) (order : List SortKey) (limit : Int) (hitems : szItems items ≤ 1048576 → Cl Tryz.prog 152 [.c (.sl items.length (items.flatMap Item.row) none)] [] fun r _ => r = .c (.sl items.length (items.flatMap Item.row) none)) (hfrom_ : szSources from_ ≤ 1048576 → Cl Tryz.prog 153 [.c (.sl from_.length (from_.flatMap Source.row) none)] [] fun r _ => r = .c (.sl from_.length (from_.flatMap Source.row) none)) (hwhere_ : szExprs where_ ≤ 1048576 → Cl Tryz.prog 49 [.c (.sl where_.length (where_.flatMap Expr.row) none)] [] fun r _ => r = .c (.sl where_.length (where_.flatMap Expr.row) none)) (horder : szSortKeys order ≤ 1048576 → Cl Tryz.prog 154 [.c (.sl order.length (order.flatMap SortKey.row) none)] [] fun r _ => r = .c (.sl order.length (order.flatMap SortKey.row) none)) (h : szQuery (Query.mk distinct items from_ where_ order limit) ≤ 1048576) : Cl Tryz.prog 96 [.ag (csOf (Query.mk distinct items from_ where_ order limit).row)] [] fun r _ => r = .ag (csOf (Query.mk distinct items from_ where_ order limit).row) := by
 rw [szQuery_mk] at h
 rw [Query.row_mk]
 refine cl_of_d follows_mixed false Tryz.func96 rfl (by kernel_rfl) ?_
 simp only [Tryz.f96, tt, seval]
 refine cZ (hitems (by omega)) (by decide) ?_ ?_ <;> simp only [tt, seval, Val.row, lc]
 refine cZ (hfrom_ (by omega)) (by decide) ?_ ?_ <;> simp only [tt, seval, Val.row, lc]
 refine cZ (hwhere_ (by omega)) (by decide) ?_ ?_ <;> simp only [tt, seval, Val.row, lc]
 refine cZ (horder (by omega)) (by decide) ?_ ?_ <;> simp only [tt, seval, Val.row, lc]
 exact ⟨_, _, rfl, end0 rfl⟩
theorem toExpr_all : (∀ a : Expr, szExpr a ≤ 1048576 → Cl Tryz.prog 18 [.ag (csOf a.row)] [] fun r _ => r = .ag (csOf a.row)) ∧ (∀ a : Item, szItem a ≤ 1048576 → Cl Tryz.prog 188 [.ag (csOf a.row)] [] fun r _ => r = .ag (csOf a.row)) ∧ (∀ a : Source, szSource a ≤ 1048576 → Cl Tryz.prog 189 [.ag (csOf a.row)] [] fun r _ => r = .ag (csOf a.row)) ∧ (∀ a : SortKey, szSortKey a ≤ 1048576 → Cl Tryz.prog 190 [.ag (csOf a.row)] [] fun r _ => r = .ag (csOf a.row)) ∧ (∀ a : Query, szQuery a ≤ 1048576 → Cl Tryz.prog 96 [.ag (csOf a.row)] [] fun r _ => r = .ag (csOf a.row)) := by
 refine Expr.ind ?_ ?_ ?_ ?_ ?_
 ·intro kind op not val qual name kids sub hkids hsub
  exact toExpr_step _ _ _ _ _ _ _ _ (toExprs_step _ hkids) (toQuerys_step _ hsub)
 ·intro star qual e as_ he
  exact toItem_step _ _ _ _ he
 ·intro table as_ on hon
  exact toSource_step _ _ _ (toExprs_step _ hon)
 ·intro e desc he
  exact toSortKey_step _ _ he
 ·intro distinct items from_ where_ order limit hitems hfrom_ hwhere_ horder
  exact toQuery_step _ _ _ _ _ _ (toItems_step _ hitems) (toSources_step _ hfrom_) (toExprs_step _ hwhere_) (toSortKeys_step _ horder)
theorem toExpr_d (a : Expr) (h : szExpr a ≤ 1048576) : Cl Tryz.prog 18 [.ag (csOf a.row)] [] fun r _ => r = .ag (csOf a.row) := toExpr_all.1 a h
theorem eqExprs_step (a : List Expr) (hx : ∀ x ∈ a, Cl Tryz.prog 20 [.ag (csOf x.row), .ag (csOf x.row)] [] fun r _ => r = vb true) : Cl Tryz.prog 53 [.c (.sl a.length (a.flatMap Expr.row) none), .c (.sl a.length (a.flatMap Expr.row) none)] [] fun r _ => r = vb true := by
 refine cl_of_d follows_mixed false Tryz.func53 rfl (by kernel_rfl) ?_
 simp only [Tryz.f53, tt, seval]
 refine fun _ _ => ?_
 refine dLoop.intro (fun f L p => ∃ i : Nat, f 5 = vi i ∧ i ≤ a.length ∧ L = [] ∧ p = none) (fun f _ _ => (a.length - ixS (f 5)).toNat) [] none ⟨SubO.nil _, PoSub.none _, ?_⟩ ?_
 ·simp only [tt, seval]
  exact ⟨0, rfl, by omega⟩
 ·rintro g L p ⟨i, h5, hi, rfl, rfl⟩
  simp only [tt, seval] at h5
  simp only [tt, seval, h5, Int.ofNat_lt]
  refine fun _ => And.intro (fun hlt => ?_) (fun hge => ?_)
  ·have hlt : i < a.length := by omega
   refine dDrawn.intro [] (pln [0, 2, 4, 6, 8, 10, 12, 14, 17, 18]) (by kernel_rfl) ?_
   simp only [tt, seval]
   simp only [tt, seval, h5]
   refine ⟨by omega, by omega, _, drop_row Expr.row_len (List.getElem?_eq_getElem hlt), Expr.ne _ _, ?_⟩
   simp only [tt, seval, h5, Expr.tk, Expr.row_len]
   refine ⟨by omega, by omega, _, drop_row Expr.row_len (List.getElem?_eq_getElem hlt), Expr.ne _ _, ?_⟩
   simp only [tt, seval, h5, Expr.tk, Expr.row_len]
   refine call0 (hx a[i] (List.getElem_mem hlt)) ?_ ?_ ?_
   ·decide
   ·simp only [tt, seval]
   rintro r rfl
   simp only [tt, seval, h5]
   rw [wrS i (by omega)]
   exact ⟨[], none, SubO.nil _, PoSub.none _, ⟨i + 1, rfl, by omega, rfl, rfl⟩, by simp only [ixS]; omega⟩
  ·exact ⟨_, _, rfl, end0 rfl⟩
theorem eqItems_step (a : List Item) (hx : ∀ x ∈ a, Cl Tryz.prog 191 [.ag (csOf x.row), .ag (csOf x.row)] [] fun r _ => r = vb true) : Cl Tryz.prog 155 [.c (.sl a.length (a.flatMap Item.row) none), .c (.sl a.length (a.flatMap Item.row) none)] [] fun r _ => r = vb true := by
 refine cl_of_d follows_mixed false Tryz.func155 rfl (by kernel_rfl) ?_
 simp only [Tryz.f155, tt, seval]
 refine fun _ _ => ?_
 refine dLoop.intro (fun f L p => ∃ i : Nat, f 5 = vi i ∧ i ≤ a.length ∧ L = [] ∧ p = none) (fun f _ _ => (a.length - ixS (f 5)).toNat) [] none ⟨SubO.nil _, PoSub.none _, ?_⟩ ?_
 ·simp only [tt, seval]
  exact ⟨0, rfl, by omega⟩
 ·rintro g L p ⟨i, h5, hi, rfl, rfl⟩
  simp only [tt, seval] at h5
  simp only [tt, seval, h5, Int.ofNat_lt]
  refine fun _ => And.intro (fun hlt => ?_) (fun hge => ?_)
  ·have hlt : i < a.length := by omega
   refine dDrawn.intro [] (pln [0, 2, 4, 6, 8, 10, 12, 14, 17, 18]) (by kernel_rfl) ?_
   simp only [tt, seval]
   simp only [tt, seval, h5]
   refine ⟨by omega, by omega, _, drop_row Item.row_len (List.getElem?_eq_getElem hlt), Item.ne _ _, ?_⟩
   simp only [tt, seval, h5, Item.tk, Item.row_len]
   refine ⟨by omega, by omega, _, drop_row Item.row_len (List.getElem?_eq_getElem hlt), Item.ne _ _, ?_⟩
   simp only [tt, seval, h5, Item.tk, Item.row_len]
   refine call0 (hx a[i] (List.getElem_mem hlt)) ?_ ?_ ?_
   ·decide
   ·simp only [tt, seval]
   rintro r rfl
   simp only [tt, seval, h5]
   rw [wrS i (by omega)]
   exact ⟨[], none, SubO.nil _, PoSub.none _, ⟨i + 1, rfl, by omega, rfl, rfl⟩, by simp only [ixS]; omega⟩
  ·exact ⟨_, _, rfl, end0 rfl⟩
theorem eqSources_step (a : List Source) (hx : ∀ x ∈ a, Cl Tryz.prog 192 [.ag (csOf x.row), .ag (csOf x.row)] [] fun r _ => r = vb true) : Cl Tryz.prog 156 [.c (.sl a.length (a.flatMap Source.row) none), .c (.sl a.length (a.flatMap Source.row) none)] [] fun r _ => r = vb true := by
 refine cl_of_d follows_mixed false Tryz.func156 rfl (by kernel_rfl) ?_
 simp only [Tryz.f156, tt, seval]
 refine fun _ _ => ?_
 refine dLoop.intro (fun f L p => ∃ i : Nat, f 5 = vi i ∧ i ≤ a.length ∧ L = [] ∧ p = none) (fun f _ _ => (a.length - ixS (f 5)).toNat) [] none ⟨SubO.nil _, PoSub.none _, ?_⟩ ?_
 ·simp only [tt, seval]
  exact ⟨0, rfl, by omega⟩
 ·rintro g L p ⟨i, h5, hi, rfl, rfl⟩
  simp only [tt, seval] at h5
  simp only [tt, seval, h5, Int.ofNat_lt]
  refine fun _ => And.intro (fun hlt => ?_) (fun hge => ?_)
  ·have hlt : i < a.length := by omega
   refine dDrawn.intro [] (pln [0, 2, 4, 6, 8, 10, 12, 14, 17, 18]) (by kernel_rfl) ?_
   simp only [tt, seval]
   simp only [tt, seval, h5]
   refine ⟨by omega, by omega, _, drop_row Source.row_len (List.getElem?_eq_getElem hlt), Source.ne _ _, ?_⟩
   simp only [tt, seval, h5, Source.tk, Source.row_len]
   refine ⟨by omega, by omega, _, drop_row Source.row_len (List.getElem?_eq_getElem hlt), Source.ne _ _, ?_⟩
   simp only [tt, seval, h5, Source.tk, Source.row_len]
   refine call0 (hx a[i] (List.getElem_mem hlt)) ?_ ?_ ?_
   ·decide
   ·simp only [tt, seval]
   rintro r rfl
   simp only [tt, seval, h5]
   rw [wrS i (by omega)]
   exact ⟨[], none, SubO.nil _, PoSub.none _, ⟨i + 1, rfl, by omega, rfl, rfl⟩, by simp only [ixS]; omega⟩
  ·exact ⟨_, _, rfl, end0 rfl⟩
theorem eqSortKeys_step (a : List SortKey) (hx : ∀ x ∈ a, Cl Tryz.prog 193 [.ag (csOf x.row), .ag (csOf x.row)] [] fun r _ => r = vb true) : Cl Tryz.prog 157 [.c (.sl a.length (a.flatMap SortKey.row) none), .c (.sl a.length (a.flatMap SortKey.row) none)] [] fun r _ => r = vb true := by
 refine cl_of_d follows_mixed false Tryz.func157 rfl (by kernel_rfl) ?_
 simp only [Tryz.f157, tt, seval]
 refine fun _ _ => ?_
 refine dLoop.intro (fun f L p => ∃ i : Nat, f 5 = vi i ∧ i ≤ a.length ∧ L = [] ∧ p = none) (fun f _ _ => (a.length - ixS (f 5)).toNat) [] none ⟨SubO.nil _, PoSub.none _, ?_⟩ ?_
 ·simp only [tt, seval]
  exact ⟨0, rfl, by omega⟩
 ·rintro g L p ⟨i, h5, hi, rfl, rfl⟩
  simp only [tt, seval] at h5
  simp only [tt, seval, h5, Int.ofNat_lt]
  refine fun _ => And.intro (fun hlt => ?_) (fun hge => ?_)
  ·have hlt : i < a.length := by omega
   refine dDrawn.intro [] (pln [0, 2, 4, 6, 8, 10, 12, 14, 17, 18]) (by kernel_rfl) ?_
   simp only [tt, seval]
   simp only [tt, seval, h5]
   refine ⟨by omega, by omega, _, drop_row SortKey.row_len (List.getElem?_eq_getElem hlt), SortKey.ne _ _, ?_⟩
   simp only [tt, seval, h5, SortKey.tk, SortKey.row_len]
   refine ⟨by omega, by omega, _, drop_row SortKey.row_len (List.getElem?_eq_getElem hlt), SortKey.ne _ _, ?_⟩
   simp only [tt, seval, h5, SortKey.tk, SortKey.row_len]
   refine call0 (hx a[i] (List.getElem_mem hlt)) ?_ ?_ ?_
   ·decide
   ·simp only [tt, seval]
   rintro r rfl
   simp only [tt, seval, h5]
   rw [wrS i (by omega)]
   exact ⟨[], none, SubO.nil _, PoSub.none _, ⟨i + 1, rfl, by omega, rfl, rfl⟩, by simp only [ixS]; omega⟩
  ·exact ⟨_, _, rfl, end0 rfl⟩
theorem eqQuerys_step (a : List Query) (hx : ∀ x ∈ a, Cl Tryz.prog 97 [.ag (csOf x.row), .ag (csOf x.row)] [] fun r _ => r = vb true) : Cl Tryz.prog 54 [.c (.sl a.length (a.flatMap Query.row) none), .c (.sl a.length (a.flatMap Query.row) none)] [] fun r _ => r = vb true := by
 refine cl_of_d follows_mixed false Tryz.func54 rfl (by kernel_rfl) ?_
 simp only [Tryz.f54, tt, seval]
 refine fun _ _ => ?_
 refine dLoop.intro (fun f L p => ∃ i : Nat, f 5 = vi i ∧ i ≤ a.length ∧ L = [] ∧ p = none) (fun f _ _ => (a.length - ixS (f 5)).toNat) [] none ⟨SubO.nil _, PoSub.none _, ?_⟩ ?_
 ·simp only [tt, seval]
  exact ⟨0, rfl, by omega⟩
 ·rintro g L p ⟨i, h5, hi, rfl, rfl⟩
  simp only [tt, seval] at h5
  simp only [tt, seval, h5, Int.ofNat_lt]
  refine fun _ => And.intro (fun hlt => ?_) (fun hge => ?_)
  ·have hlt : i < a.length := by omega
   refine dDrawn.intro [] (pln [0, 2, 4, 6, 8, 10, 12, 14, 17, 18]) (by kernel_rfl) ?_
   simp only [tt, seval]
   simp only [tt, seval, h5]
   refine ⟨by omega, by omega, _, drop_row Query.row_len (List.getElem?_eq_getElem hlt), Query.ne _ _, ?_⟩
   simp only [tt, seval, h5, Query.tk, Query.row_len]
   refine ⟨by omega, by omega, _, drop_row Query.row_len (List.getElem?_eq_getElem hlt), Query.ne _ _, ?_⟩
   simp only [tt, seval, h5, Query.tk, Query.row_len]
   refine call0 (hx a[i] (List.getElem_mem hlt)) ?_ ?_ ?_
   ·decide
   ·simp only [tt, seval]
   rintro r rfl
   simp only [tt, seval, h5]
   rw [wrS i (by omega)]
   exact ⟨[], none, SubO.nil _, PoSub.none _, ⟨i + 1, rfl, by omega, rfl, rfl⟩, by simp only [ixS]; omega⟩
  ·exact ⟨_, _, rfl, end0 rfl⟩
theorem eqExpr_step (kind : Int) (op : Int) (not : Bool) (val : Val) (qual : ByteArray) (name : ByteArray) (kids : List Expr) (sub : List Query) (hkids : Cl Tryz.prog 53 [.c (.sl kids.length (kids.flatMap Expr.row) none), .c (.sl kids.length (kids.flatMap Expr.row) none)] [] fun r _ => r = vb true) (hsub : Cl Tryz.prog 54 [.c (.sl sub.length (sub.flatMap Query.row) none), .c (.sl sub.length (sub.flatMap Query.row) none)] [] fun r _ => r = vb true) : Cl Tryz.prog 20 [.ag (csOf (Expr.mk kind op not val qual name kids sub).row), .ag (csOf (Expr.mk kind op not val qual name kids sub).row)] [] fun r _ => r = vb true := by
 rw [Expr.row_mk]
 refine cl_of_d follows_mixed false Tryz.func20 rfl (by kernel_rfl) ?_
 simp only [Tryz.f20, tt, seval]
 refine cZ (eqValue_d val) (by decide) ?_ ?_ <;> simp only [tt, seval, Val.row, lc]
 refine cZ (hkids) (by decide) ?_ ?_ <;> simp only [tt, seval, Val.row, lc]
 refine cZ (hsub) (by decide) ?_ ?_ <;> simp only [tt, seval, Val.row, lc]
 exact ⟨_, _, rfl, end0 rfl⟩
theorem eqItem_step (star : Bool) (qual : ByteArray) (e : Expr) (as_ : ByteArray) (he : Cl Tryz.prog 20 [.ag (csOf e.row), .ag (csOf e.row)] [] fun r _ => r = vb true) : Cl Tryz.prog 191 [.ag (csOf (Item.mk star qual e as_).row), .ag (csOf (Item.mk star qual e as_).row)] [] fun r _ => r = vb true := by
 rw [Item.row_mk]
 obtain ⟨e_kind, e_op, e_not, e_val, e_qual, e_name, e_kids, e_sub⟩ := e
 simp only [Expr.row_mk, lc]
 refine cl_of_d follows_mixed false Tryz.func191 rfl (by kernel_rfl) ?_
 simp only [Tryz.f191, tt, seval]
 refine cZ (he) (by decide) ?_ ?_ <;> simp only [tt, seval, Val.row, lc, Expr.row_mk]
 exact ⟨_, _, rfl, end0 rfl⟩
theorem eqSource_step (table : ByteArray) (as_ : ByteArray) (on : List Expr) (hon : Cl Tryz.prog 53 [.c (.sl on.length (on.flatMap Expr.row) none), .c (.sl on.length (on.flatMap Expr.row) none)] [] fun r _ => r = vb true) : Cl Tryz.prog 192 [.ag (csOf (Source.mk table as_ on).row), .ag (csOf (Source.mk table as_ on).row)] [] fun r _ => r = vb true := by
 rw [Source.row_mk]
 refine cl_of_d follows_mixed false Tryz.func192 rfl (by kernel_rfl) ?_
 simp only [Tryz.f192, tt, seval]
 refine cZ (hon) (by decide) ?_ ?_ <;> simp only [tt, seval, Val.row, lc]
 exact ⟨_, _, rfl, end0 rfl⟩
theorem eqSortKey_step (e : Expr) (desc : Bool) (he : Cl Tryz.prog 20 [.ag (csOf e.row), .ag (csOf e.row)] [] fun r _ => r = vb true) : Cl Tryz.prog 193 [.ag (csOf (SortKey.mk e desc).row), .ag (csOf (SortKey.mk e desc).row)] [] fun r _ => r = vb true := by
 rw [SortKey.row_mk]
 obtain ⟨e_kind, e_op, e_not, e_val, e_qual, e_name, e_kids, e_sub⟩ := e
 simp only [Expr.row_mk, lc]
 refine cl_of_d follows_mixed false Tryz.func193 rfl (by kernel_rfl) ?_
 simp only [Tryz.f193, tt, seval]
 refine cZ (he) (by decide) ?_ ?_ <;> simp only [tt, seval, Val.row, lc, Expr.row_mk]
 exact ⟨_, _, rfl, end0 rfl⟩
theorem eqQuery_step (distinct : Bool) (items : List Item) (from_ : List Source) (where_ : List Expr) (order : List SortKey) (limit : Int) (hitems : Cl Tryz.prog 155 [.c (.sl items.length (items.flatMap Item.row) none), .c (.sl items.length (items.flatMap Item.row) none)] [] fun r _ => r = vb true) (hfrom_ : Cl Tryz.prog 156 [.c (.sl from_.length (from_.flatMap Source.row) none), .c (.sl from_.length (from_.flatMap Source.row) none)] [] fun r _ => r = vb true) (hwhere_ : Cl Tryz.prog 53 [.c (.sl where_.length (where_.flatMap Expr.row) none), .c (.sl where_.length (where_.flatMap Expr.row) none)] [] fun r _ => r = vb true) (horder : Cl Tryz.prog 157 [.c (.sl order.length (order.flatMap SortKey.row) none), .c (.sl order.length (order.flatMap SortKey.row) none)] [] fun r _ => r = vb true) : Cl Tryz.prog 97 [.ag (csOf (Query.mk distinct items from_ where_ order limit).row), .ag (csOf (Query.mk distinct items from_ where_ order limit).row)] [] fun r _ => r = vb true := by
 rw [Query.row_mk]
 refine cl_of_d follows_mixed false Tryz.func97 rfl (by kernel_rfl) ?_
 simp only [Tryz.f97, tt, seval]
 refine cZ (hitems) (by decide) ?_ ?_ <;> simp only [tt, seval, Val.row, lc]
 refine cZ (hfrom_) (by decide) ?_ ?_ <;> simp only [tt, seval, Val.row, lc]
 refine cZ (hwhere_) (by decide) ?_ ?_ <;> simp only [tt, seval, Val.row, lc]
 refine cZ (horder) (by decide) ?_ ?_ <;> simp only [tt, seval, Val.row, lc]
 exact ⟨_, _, rfl, end0 rfl⟩
theorem eqExpr_all : (∀ a : Expr, Cl Tryz.prog 20 [.ag (csOf a.row), .ag (csOf a.row)] [] fun r _ => r = vb true) ∧ (∀ a : Item, Cl Tryz.prog 191 [.ag (csOf a.row), .ag (csOf a.row)] [] fun r _ => r = vb true) ∧ (∀ a : Source, Cl Tryz.prog 192 [.ag (csOf a.row), .ag (csOf a.row)] [] fun r _ => r = vb true) ∧ (∀ a : SortKey, Cl Tryz.prog 193 [.ag (csOf a.row), .ag (csOf a.row)] [] fun r _ => r = vb true) ∧ (∀ a : Query, Cl Tryz.prog 97 [.ag (csOf a.row), .ag (csOf a.row)] [] fun r _ => r = vb true) := by
 refine Expr.ind ?_ ?_ ?_ ?_ ?_
 ·intro kind op not val qual name kids sub hkids hsub
  exact eqExpr_step _ _ _ _ _ _ _ _ (eqExprs_step _ hkids) (eqQuerys_step _ hsub)
 ·intro star qual e as_ he
  exact eqItem_step _ _ _ _ he
 ·intro table as_ on hon
  exact eqSource_step _ _ _ (eqExprs_step _ hon)
 ·intro e desc he
  exact eqSortKey_step _ _ he
 ·intro distinct items from_ where_ order limit hitems hfrom_ hwhere_ horder
  exact eqQuery_step _ _ _ _ _ _ (eqItems_step _ hitems) (eqSources_step _ hfrom_) (eqExprs_step _ hwhere_) (eqSortKeys_step _ horder)
theorem eqExpr_d (a : Expr) : Cl Tryz.prog 20 [.ag (csOf a.row), .ag (csOf a.row)] [] fun r _ => r = vb true := eqExpr_all.1 a
structure Tok where
 kind : Int
 text : ByteArray
 at_ : Int
def Tok.row (t : Tok) : List D := [int t.kind, str t.text, int t.at_]
theorem Tok.row_len (t : Tok) : t.row.length = 3 := rfl
theorem Tok.tk (t : Tok) (r : List D) : takeD 3 (t.row ++ r) = some t.row := takeD_row rfl
theorem Tok.ne (t : Tok) (r : List D) : t.row ++ r ≠ [] := fun h => by cases h
theorem Tok.ds (t : Tok) : dsOf (csOf t.row) = some (t.row, some []) := rfl
def signs : List ByteArray := [⟨#[40]⟩, ⟨#[41]⟩, ⟨#[44]⟩, ⟨#[46]⟩, ⟨#[42]⟩, ⟨#[43]⟩, ⟨#[45]⟩, ⟨#[47]⟩, ⟨#[37]⟩, ⟨#[61]⟩, ⟨#[60, 62]⟩, ⟨#[60]⟩, ⟨#[60, 61]⟩, ⟨#[62]⟩, ⟨#[62, 61]⟩, ⟨#[124, 124]⟩]
def signB (s : ByteArray) : Bool := signs.any fun x => decide (s = x)
theorem signs_d : Cl Tryz.prog 240 [] [] fun r _ => r = .c (.sl 16 (signs.flatMap srow) none) := by
 refine cl_of_d follows_mixed false Tryz.func240 rfl (by kernel_rfl) ?_
 simp only [tt, seval, Tryz.f240]
 refine ⟨_, [], rfl, endOk ?_⟩
 simp only [tt, seval, signs, srow]
theorem ixOf_sign (s : ByteArray) : decide (0 ≤ ixOf s signs) = signB s := by
 unfold ixOf signB
 by_cases h : signs.findIdx (fun w => decide (w = s)) < signs.length
 ·rw [if_pos h]
  have := List.findIdx_getElem (w := h)
  have hm := List.getElem_mem h
  refine (decide_eq_true (by omega)).trans (Eq.symm ?_)
  rw [List.any_eq_true]
  exact ⟨_, hm, by simpa [eq_comm] using this⟩
 ·rw [if_neg h]
  refine (decide_eq_false (by omega)).trans (Eq.symm ?_)
  rw [List.any_eq_false]
  intro x hx
  have := List.findIdx_lt_length (xs := signs) (p := fun w => decide (w = s))
  simp only [h, false_iff, not_exists, not_and] at this
  simpa [eq_comm] using this x hx
theorem Contains_d (s : ByteArray) : Cl Tryz.prog 239 [.c (.sl 16 (signs.flatMap srow) none), vs s] [] fun r _ => r = vb (signB s) := by
 refine cl_of_d follows_mixed false Tryz.func239 rfl (by kernel_rfl) ?_
 simp only [Tryz.f239, tt, seval]
 refine cZ (Index_d signs s) (by decide) ?_ ?_ <;> simp only [tt, seval, show signs.length = 16 from rfl]
 exact ⟨_, _, vbE (by rw [← ixOf_sign]), end0 rfl⟩
theorem iSignOk_d (s : ByteArray) : Cl Tryz.prog 233 [vs s] [] fun r _ => r = vb (signB s) := by
 refine cl_of_d follows_mixed false Tryz.func233 rfl (by kernel_rfl) ?_
 simp only [Tryz.f233, tt, seval]
 refine cZ (signs_d) (by decide) ?_ ?_ <;> simp only [tt, seval]
 refine cZ (Contains_d s) (by decide) ?_ ?_ <;> simp only [tt, seval]
 exact ⟨_, _, rfl, end0 rfl⟩
def opW : List ByteArray := ⟨#[]⟩ :: [⟨#[79, 82]⟩, ⟨#[65, 78, 68]⟩, ⟨#[61]⟩, ⟨#[60, 62]⟩, ⟨#[60]⟩, ⟨#[60, 61]⟩, ⟨#[62]⟩, ⟨#[62, 61]⟩, ⟨#[124, 124]⟩, ⟨#[43]⟩, ⟨#[45]⟩, ⟨#[42]⟩, ⟨#[47]⟩, ⟨#[37]⟩, ⟨#[78, 79, 84]⟩, ⟨#[45]⟩]
def opT (k : Int) : ByteArray := if 1 ≤ k ∧ k ≤ 16 then opW.getD k.toNat ⟨#[]⟩ else ⟨#[]⟩
def kw (k : Nat) : ByteArray := words.getD k ⟨#[]⟩
end Go.Proofs.YtabhiapifcanoaaGreatDoor
set_option maxRecDepth 8000
namespace Go.Proofs.YtabhiapifcanoaaGreatDoor
open Go Go.Dv
open Go.Vc (D shrI xorI andI)
open Go.RowKit (Below)
theorem KeyText_d (k : Nat) (h1 : 1 ≤ k) (h2 : k ≤ 28) : Cl Tryz.prog 59 [vi k] [] fun r _ => r = vs (kw k) := by
 refine cl_of_d follows_mixed false Tryz.func59 rfl (by kernel_rfl) ?_
 simp only [Tryz.f59, tt, seval]
 refine cZ (l1In_d k 1 28) (by decide) ?_ ?_ <;> simp only [tt, seval]
 simp only [tt, seval, decide_eq_true (show (1 : Int) ≤ k ∧ (k : Int) ≤ 28 by omega)]
 refine cZ (l2Words_d) (by decide) ?_ ?_ <;> simp only [tt, seval]
 have hlt : k < words.length := by show _ < 29; omega
 refine ⟨by omega, by omega, _, drop_row srow_len (List.getElem?_eq_getElem hlt), srow_ne _ _, ?_⟩
 simp only [tt, seval, srow_tk, srow]
 exact ⟨_, _, vsE (by rw [kw, List.getD_eq_getElem?_getD, List.getElem?_eq_getElem hlt]; rfl), end0 rfl⟩
theorem opW_row : ([.lit (.string ⟨#[]⟩), .lit (.string ⟨#[79, 82]⟩), .lit (.string ⟨#[65, 78, 68]⟩), .lit (.string ⟨#[61]⟩), .lit (.string ⟨#[60, 62]⟩), .lit (.string ⟨#[60]⟩), .lit (.string ⟨#[60, 61]⟩), .lit (.string ⟨#[62]⟩), .lit (.string ⟨#[62, 61]⟩), .lit (.string ⟨#[124, 124]⟩), .lit (.string ⟨#[43]⟩), .lit (.string ⟨#[45]⟩), .lit (.string ⟨#[42]⟩), .lit (.string ⟨#[47]⟩), .lit (.string ⟨#[37]⟩), .lit (.string ⟨#[78, 79, 84]⟩), .lit (.string ⟨#[45]⟩)] : List D) = opW.flatMap srow := rfl
theorem opW_tail : ([.lit (.string ⟨#[79, 82]⟩), .lit (.string ⟨#[65, 78, 68]⟩), .lit (.string ⟨#[61]⟩), .lit (.string ⟨#[60, 62]⟩), .lit (.string ⟨#[60]⟩), .lit (.string ⟨#[60, 61]⟩), .lit (.string ⟨#[62]⟩), .lit (.string ⟨#[62, 61]⟩), .lit (.string ⟨#[124, 124]⟩), .lit (.string ⟨#[43]⟩), .lit (.string ⟨#[45]⟩), .lit (.string ⟨#[42]⟩), .lit (.string ⟨#[47]⟩), .lit (.string ⟨#[37]⟩), .lit (.string ⟨#[78, 79, 84]⟩), .lit (.string ⟨#[45]⟩)] : List D) = opW.tail.flatMap srow := rfl
theorem OpText_d (k : Int) : Cl Tryz.prog 146 [vi k] [] fun r _ => r = vs (opT k) := by
 refine cl_of_d follows_mixed false Tryz.func146 rfl (by kernel_rfl) ?_
 simp only [Tryz.f146, tt, seval]
 refine cZ (l1In_d k 1 16) (by decide) ?_ ?_ <;> simp only [tt, seval]
 refine And.intro (fun hc => ?_) (fun hc => ?_)
 ·exact ⟨_, _, vsE (by rw [opT, if_neg (by simpa only [Bool.not_eq_true', decide_eq_false_iff_not] using hc)]), end0 rfl⟩
 ·have hc : 1 ≤ k ∧ k ≤ 16 := by simpa only [Bool.not_eq_false', decide_eq_true_eq] using hc
  have hlt : k.toNat < opW.length := by show _ < 17; omega
  try simp only [tt, seval]
  refine ⟨by omega, by omega, ?_⟩
  rw [opW_row, drop_row srow_len (List.getElem?_eq_getElem hlt)]
  simp only [tt, seval, srow_tk, srow]
  exact ⟨_, _, vsE (by rw [opT, if_pos hc, List.getD_eq_getElem?_getD, List.getElem?_eq_getElem hlt]; rfl), end0 rfl⟩
theorem iOpText_d (k : Int) : Cl Tryz.prog 168 [vi k] [] fun r _ => r = vs (opT k) := by
 refine cl_of_d follows_mixed false Tryz.func168 rfl (by kernel_rfl) ?_
 simp only [Tryz.f168, tt, seval]
 by_cases h1 : k < 1
 ·simp only [tt, seval, decide_eq_true h1]
  exact ⟨_, _, vsE (by rw [opT, if_neg (by omega)]), end0 rfl⟩
 ·simp only [tt, seval, decide_eq_false h1]
  refine And.intro (fun h2 => ?_) (fun h2 => ?_)
  ·exact ⟨_, _, vsE (by rw [opT, if_neg (by omega)]), end0 rfl⟩
  ·have hc : 1 ≤ k ∧ k ≤ 16 := by omega
   have hlt : (k - 1).toNat < opW.tail.length := by show _ < 16; omega
   rw [wrap_id (n := k - 1) (by omega) (by omega)]
   refine ⟨by omega, by omega, ?_⟩
   rw [opW_tail, drop_row srow_len (List.getElem?_eq_getElem hlt)]
   simp only [tt, seval, srow_tk, srow]
   have hlt' : k.toNat < opW.length := by show _ < 17; omega
   refine ⟨_, _, vsE ?_, end0 rfl⟩
   rw [opT, if_pos hc, List.getD_eq_getElem?_getD, List.getElem?_eq_getElem hlt']
   simp only [List.getElem_tail, Option.getD_some, show (k - 1).toNat + 1 = k.toNat by omega]
theorem und_err : Tryz.prog.underlying 223 = some (.interface (Tryz.prog.methodsAt 223)) := by kernel_rfl
theorem pu_enil {n : Nat} {d : Option Nat} {K : K0} {f : Rg} {L : Ob} {p : Po} {x : Operand} : dPure Tryz.prog n d (do eqGuard .neq 223 x (.const .nilIface) .nilIface .nilIface; binOp .neq 223 .nilIface .nilIface) K f L p = K (put n f d (.c (.v (.bool false)))) L p :=
 dPure_of (fun w => by rw [Sem.run_bind]; simp [eqGuard, run_neq_nil_nil w 223 und_err]) trivial
theorem pu_eif {n : Nat} {d : Option Nat} {K : K0} {f : Rg} {L : Ob} {p : Po} {x y : Operand} {u : TypeId} {v : Value} : dPure Tryz.prog n d (do eqGuard .neq 223 x y (.iface u v) .nilIface; binOp .neq 223 (.iface u v) .nilIface) K f L p = K (put n f d (.c (.v (.bool true)))) L p :=
 dPure_of (fun w => by rw [Sem.run_bind]; simp [eqGuard, run_neq_held_nil w 223 u v und_err]) trivial
theorem gl_errs {w : World} {own : Nat → Prop} (h : GlW w own) : (∃ v, w.cell? ⟨0, 0, none⟩ = some v ∧ (v = .nilIface ∨ ∃ t p, v = .iface t p)) ∧ (∃ v, w.cell? ⟨1, 0, none⟩ = some v ∧ (v = .nilIface ∨ ∃ t p, v = .iface t p)) := by
 constructor
 ·obtain ⟨_, cs, ty, lh, h2, v, h3, h4⟩ := h _ (List.mem_cons_of_mem _ (List.mem_cons_of_mem _ (List.mem_cons_self)))
  exact ⟨v, by simp only [World.cell?, h2]; exact h3, h4⟩
 ·obtain ⟨_, cs, ty, lh, h2, v, h3, h4⟩ := h _ (List.mem_cons_of_mem _ (List.mem_cons_of_mem _ (List.mem_cons_of_mem _ (List.mem_cons_self))))
  exact ⟨v, by simp only [World.cell?, h2]; exact h3, h4⟩
def atoiR (s : ByteArray) (r : S) : Prop := ∃ n e, r = .tu [([.v (.int .i64 n)], true), ([.v e], true)] ∧ ((e = .nilIface ∧ Lib.atoiAll s.data.toList = .ok n) ∨ ((∃ t p, e = .iface t p) ∧ ∀ v, Lib.atoiAll s.data.toList ≠ .ok v))
theorem Atoi_d (s : ByteArray) (hs : s.size ≤ 1048576) : Cl Tryz.prog 225 [vs s] [] fun r _ => atoiR s r :=
 Cl.ofNew (by kernel_rfl) [.string s] fun w hg => by
  obtain ⟨⟨ev, h4, h4'⟩, ⟨ev', h5, h5'⟩⟩ := gl_errs hg
  rcases ha : Lib.atoiAll s.data.toList with v | _ | _
  ·skip
   refine (Any.strconv_Atoi_ok Tryz.laysC172 s (by omega) v ha w).mono ?_
   rintro e w' ⟨rfl, hw⟩
   refine ⟨_, .tu [([.v (.int .i64 v)], true), ([.v .nilIface], true)], rfl, ⟨v, _, rfl, .inl ⟨rfl, ha⟩⟩, rfl, fun β => ⟨_, rfl, ⟨⟨rfl, trivial⟩, trivial⟩, ⟨⟨rfl, trivial⟩, trivial⟩, trivial⟩, ?_⟩
   rcases hw with rfl | ⟨t, rfl⟩
   ·exact Below.refl _ _
   ·exact Lib.bytesWorld_below _ _ _
  ·refine (Any.strconv_Atoi_syntax Tryz.laysC172 s (by omega) ha ev w h4 h4').mono ?_
   rintro e w' ⟨N, rfl, _, _, hb⟩
   exact ⟨_, .tu [([.v (.int .i64 _)], true), ([.v (.iface _ _)], true)], rfl, ⟨_, _, rfl, .inr ⟨⟨_, _, rfl⟩, fun v h => by rw [ha] at h; cases h⟩⟩, rfl, fun β => ⟨_, rfl, ⟨⟨rfl, trivial⟩, trivial⟩, ⟨⟨rfl, trivial⟩, trivial⟩, trivial⟩, hb⟩
  ·refine (Any.strconv_Atoi_range Tryz.laysC172 s (by omega) ha ev' w h5 h5').mono ?_
   rintro e w' ⟨N, rfl, _, _, hb⟩
   exact ⟨_, .tu [([.v (.int .i64 _)], true), ([.v (.iface _ _)], true)], rfl, ⟨_, _, rfl, .inr ⟨⟨_, _, rfl⟩, fun v h => by rw [ha] at h; cases h⟩⟩, rfl, fun β => ⟨_, rfl, ⟨⟨rfl, trivial⟩, trivial⟩, ⟨⟨rfl, trivial⟩, trivial⟩, trivial⟩, hb⟩
def numOk (s : ByteArray) : Bool := (numN s.data.toList).isSome
def numV (s : ByteArray) : Int := ((numN s.data.toList).getD 0 : Nat)
def numS (s : ByteArray) : S := .tu [([.v (.int .i64 (numV s))], true), ([.v (.bool (numOk s))], true)]
theorem iNumber_d (s : ByteArray) (hs : s.size ≤ 1048576) : Cl Tryz.prog 222 [vs s] [] fun r _ => r = numS s := by
 refine cl_of_d follows_mixed false Tryz.func222 rfl (by kernel_rfl) ?_
 simp only [Tryz.f222, tt, seval]
 refine call0 (Atoi_d s hs) ?_ ?_ ?_
 ·decide
 ·simp only [tt, seval]
 rintro r ⟨n, e, rfl, hh⟩
 simp only [tt, seval]
 rcases hh with ⟨rfl, ha⟩ | ⟨⟨tt', pp, rfl⟩, hne⟩
 ·rw [pu_enil]
  simp only [tt, seval]
  have hb := Lib.atoiAll_bounds ha
  by_cases hn : n < 0
  ·simp only [tt, seval, decide_eq_true hn]
   have hno : numN s.data.toList = none := by
    cases hc : numN s.data.toList with
    | none => rfl
    | some m => have := atoi_numN hc; rw [ha] at this; injection this; omega
   exact ⟨_, _, by rw [numS, numV, numOk, hno]; rfl, end0 rfl⟩
  ·simp only [tt, seval, decide_eq_false hn]
   refine cZ (iDigits_d n (by omega) (by omega)) (by decide) ?_ ?_ <;> simp only [tt, seval]
   refine And.intro (fun he => ?_) (fun he => ?_)
   ·have he' : ¬ itoaB n = s := by simpa only [Bool.not_eq_true', decide_eq_false_iff_not] using he
    have hno : numN s.data.toList = none := by
     cases hc : numN s.data.toList with
     | none => rfl
     | some m =>
      have h1 := atoi_numN hc
      obtain ⟨_, h2⟩ := numN_some.1 hc
      rw [ha] at h1
      injection h1 with h1
      refine absurd (ba_ext ?_) he'
      rw [itoaB, h1, itoa_nat, h2]
    exact ⟨_, _, by rw [numS, numV, numOk, hno]; rfl, end0 rfl⟩
   ·have he' : itoaB n = s := by simpa only [Bool.not_eq_false', decide_eq_true_eq] using he
    have hc := numN_atoi ha (by omega) (by rw [← he']; rfl)
    exact ⟨_, _, by rw [numS, numV, numOk, hc]; simp only [Option.getD_some, Option.isSome_some, Int.toNat_of_nonneg (show 0 ≤ n by omega)], end0 rfl⟩
 ·rw [pu_eif]
  simp only [tt, seval]
  have hno : numN s.data.toList = none := by
   cases hc : numN s.data.toList with
   | none => rfl
   | some m => exact absurd (atoi_numN hc) (hne _)
  exact ⟨_, _, by rw [numS, numV, numOk, hno]; rfl, end0 rfl⟩
end Go.Proofs.YtabhiapifcanoaaGreatDoor
set_option maxRecDepth 8000
namespace Go.Proofs.YtabhiapifcanoaaGreatDoor
open Go Go.Dv
open Go.Vc (D shrI xorI andI)
def okTok (t : Tok) : Bool := if t.kind = 1 then (decide (¬ key t.text = 0) && decide (foldB t.text = t.text)) else if t.kind = 2 then decide (1 ≤ t.text.size ∧ t.text.size ≤ 20) else if t.kind = 3 then numOk t.text else if t.kind = 4 then decide (t.text.size ≤ 40) else if t.kind = 5 then signB t.text else false
theorem iTokenOk_d (t : Tok) (hs : t.text.size ≤ 1048576) : Cl Tryz.prog 224 [.ag (csOf t.row)] [] fun r _ => r = vb (okTok t) := by
 rw [Tok.row]
 refine cl_of_d follows_mixed false Tryz.func224 rfl (by kernel_rfl) ?_
 simp only [Tryz.f224, tt, seval]
 refine And.intro (fun h1 => ?_) (fun h1 => ?_)
 ·skip
  refine dDrawn.intro [] (pln [0, 2, 5, 6, 8, 10, 12, 16, 18, 15, 20, 22, 24]) (by kernel_rfl) ?_
  simp only [tt, seval]
  refine cZ (iKeyOf_d t.text hs) (by decide) ?_ ?_ <;> simp only [tt, seval, Tok.row]
  have hk := key_ge t.text
  have hgt : True := trivial
  by_cases hz : key t.text = 0
  ·simp only [tt, seval, hgt, decide_eq_true hz, decide_eq_false (not_not_intro hz)]
   exact ⟨_, _, vbE (by rw [okTok, if_pos h1, decide_eq_false (not_not_intro hz)]; rfl), end0 rfl⟩
  ·simp only [tt, seval, hgt, decide_eq_false hz, decide_eq_true hz]
   refine cZ (iFold_d t.text hs) (by decide) ?_ ?_ <;> simp only [tt, seval, Tok.row]
   exact ⟨_, _, vbE (by rw [okTok, if_pos h1, decide_eq_true hz]; rfl), end0 rfl⟩
 ·try simp only [tt, seval]
  refine And.intro (fun h2 => ?_) (fun h2 => ?_)
  ·skip
   refine cZ (iNameOk_d t.text) (by decide) ?_ ?_ <;> simp only [tt, seval, Tok.row]
   exact ⟨_, _, vbE (by rw [okTok, if_neg h1, if_pos h2]), end0 rfl⟩
  ·try simp only [tt, seval]
   refine And.intro (fun h3 => ?_) (fun h3 => ?_)
   ·skip
    refine cZ (iNumber_d t.text hs) (by decide) ?_ ?_ <;> simp only [tt, seval, Tok.row, numS]
    exact ⟨_, _, vbE (by rw [okTok, if_neg h1, if_neg h2, if_pos h3]), end0 rfl⟩
   ·try simp only [tt, seval]
    refine And.intro (fun h4 => ?_) (fun h4 => ?_)
    ·try simp only [tt, seval]
     refine fun _ => ?_
     exact ⟨_, _, vbE (by rw [okTok, if_neg h1, if_neg h2, if_neg h3, if_pos h4]; simp only [decide_eq_decide]; omega), end0 rfl⟩
    ·try simp only [tt, seval]
     refine And.intro (fun h5 => ?_) (fun h5 => ?_)
     ·skip
      refine cZ (iSignOk_d t.text) (by decide) ?_ ?_ <;> simp only [tt, seval, Tok.row]
      exact ⟨_, _, vbE (by rw [okTok, if_neg h1, if_neg h2, if_neg h3, if_neg h4, if_pos h5]), end0 rfl⟩
     ·exact ⟨_, _, vbE (by rw [okTok, if_neg h1, if_neg h2, if_neg h3, if_neg h4, if_neg h5]), end0 rfl⟩
def tokT (t : Tok) : ByteArray := if okTok t = false then ⟨#[]⟩ else if t.kind = 2 then nameT t.text else if t.kind = 4 then quoteB 39 t.text else t.text
def Expr.kind : Expr → Int | .mk k _ _ _ _ _ _ _ => k
def Expr.op : Expr → Int | .mk _ o _ _ _ _ _ _ => o
def Expr.kids : Expr → List Expr | .mk _ _ _ _ _ _ k _ => k
def Expr.sub : Expr → List Query | .mk _ _ _ _ _ _ _ s => s
def bl (op : Int) : Int := if op = 1 then 1 else if op = 2 then 2 else if 3 ≤ op ∧ op ≤ 8 then 4 else if op = 9 then 5 else if op = 10 ∨ op = 11 then 6 else if 12 ≤ op ∧ op ≤ 14 then 7 else 0
def lv (k op : Int) : Int := if k = 4 then bl op else if k = 3 then (if op = 15 then 3 else if op = 16 then 8 else 0) else if 5 ≤ k ∧ k ≤ 8 then 4 else if k = 1 ∨ k = 2 ∨ k = 9 then 9 else 0
def lvE (e : Expr) : Int := lv e.kind e.op
theorem lv_bounds (k op : Int) : 0 ≤ lv k op ∧ lv k op ≤ 9 := by unfold lv bl; (repeat' split) <;> omega
def nd (kind op : Int) (k : Nat) : Int := if lv kind op = 0 ∨ lv kind op = 9 then 0 else if kind = 4 then (if lv kind op = 4 then 5 else if k = 0 then lv kind op else lv kind op + 1) else if kind = 3 then lv kind op else if kind = 7 ∧ 0 < k then 1 else 5
def lvT : List Int := [0, 1, 2, 4, 4, 4, 4, 4, 4, 5, 6, 6, 7, 7, 7]
theorem lvT_row : ([.lit (.int .i64 0), .lit (.int .i64 1), .lit (.int .i64 2), .lit (.int .i64 4), .lit (.int .i64 4), .lit (.int .i64 4), .lit (.int .i64 4), .lit (.int .i64 4), .lit (.int .i64 4), .lit (.int .i64 5), .lit (.int .i64 6), .lit (.int .i64 6), .lit (.int .i64 7), .lit (.int .i64 7), .lit (.int .i64 7)] : List D) = lvT.flatMap irow := rfl
theorem irow_len (n : Int) : (irow n).length = 1 := rfl
theorem irow_tk (v : Int) (r : List D) : takeD 1 (irow v ++ r) = some (irow v) := takeD_row rfl
theorem lvT_get : ∀ n : Fin 15, 1 ≤ n.1 → lvT[n.1]'n.2 = bl n.1 := by decide
theorem LevelOf_d (e : Expr) : Cl Tryz.prog 90 [.ag (csOf e.row)] [] fun r _ => r = vi (lvE e) := by
 obtain ⟨kind, op, not, val, qual, name, kids, sub⟩ := e
 rw [Expr.row_mk, lvE, Expr.kind, Expr.op]
 refine cl_of_d follows_mixed false Tryz.func90 rfl (by kernel_rfl) ?_
 simp only [Tryz.f90, tt, seval]
 all_goals repeat' first | (refine And.intro (fun h => ?_) (fun h => ?_) <;> try simp only [tt, seval]) | (intro _; try simp only [tt, seval])
 all_goals first | contradiction | exact ⟨_, _, viE (by unfold lv; (repeat' split) <;> omega), end0 rfl⟩ | skip
 have h4 : kind = 4 := by assumption
 refine cZ (l1In_d op 1 14) (by decide) ?_ ?_ <;> simp only [tt, seval]
 refine And.intro (fun hc => ?_) (fun hc => ?_)
 ·have hc : 1 ≤ op ∧ op ≤ 14 := by simpa only [decide_eq_true_eq] using hc
  have hlt : op.toNat < lvT.length := by show _ < 15; omega
  try simp only [tt, seval]
  refine ⟨by omega, by omega, ?_⟩
  rw [lvT_row, drop_row irow_len (List.getElem?_eq_getElem hlt)]
  simp only [tt, seval, irow_tk, irow]
  exact ⟨_, _, viE (by rw [lv, if_pos h4]; exact (lvT_get ⟨op.toNat, hlt⟩ (by show 1 ≤ op.toNat; omega)).trans (congrArg bl (Int.toNat_of_nonneg (show 0 ≤ op by omega)))), end0 rfl⟩
 ·exact ⟨_, _, viE (by rw [lv, if_pos h4]; unfold bl; have : ¬ (1 ≤ op ∧ op ≤ 14) := by simpa only [decide_eq_false_iff_not, decide_eq_true_eq] using hc
                       (repeat' split) <;> omega), end0 rfl⟩
theorem Needs_d (kind op : Int) (not : Bool) (val : Val) (qual name : ByteArray) (kids : List Expr) (sub : List Query) (k : Nat) (hk : k < kids.length) : Cl Tryz.prog 147 [.ag (csOf (Expr.mk kind op not val qual name kids sub).row), vi k] [] fun r _ => r = vi (nd kind op k) := by
 rw [Expr.row_mk]
 refine cl_of_d follows_mixed false Tryz.func147 rfl (by kernel_rfl) ?_
 simp only [Tryz.f147, tt, seval]
 refine cZ (LevelOf_d (Expr.mk kind op not val qual name kids sub)) (by decide) ?_ ?_ <;> simp only [tt, seval, Expr.row_mk, lvE, Expr.kind, Expr.op]
 have hb := lv_bounds kind op
 refine fun hlen => ?_
 rw [wrap_id (n := (kids.length : Int) - 1) (by omega) (by omega)]
 refine cZ (l1In_d k 0 (kids.length - 1)) (by decide) ?_ ?_ <;> simp only [tt, seval, Expr.row_mk]
 simp only [tt, seval, decide_eq_true (show (0 : Int) ≤ k ∧ (k : Int) ≤ (kids.length : Int) - 1 by omega)]
 by_cases l0 : lv kind op = 0
 ·simp only [tt, seval, decide_eq_true l0]
  exact ⟨_, _, viE (by rw [nd, if_pos (Or.inl l0)]), end0 rfl⟩
 simp only [tt, seval, decide_eq_false l0]
 refine And.intro (fun l9 => ?_) (fun l9 => ?_)
 ·exact ⟨_, _, viE (by rw [nd, if_pos (Or.inr l9)]), end0 rfl⟩
 try simp only [tt, seval]
 have e : nd kind op k = if kind = 4 then (if lv kind op = 4 then 5 else if k = 0 then lv kind op else lv kind op + 1) else if kind = 3 then lv kind op else if kind = 7 ∧ 0 < k then 1 else 5 := by rw [nd, if_neg (by omega)]
 rw [e, wrap_id (n := lv kind op + 1) (by omega) (by omega)]
 all_goals repeat' first | (refine And.intro (fun h => ?_) (fun h => ?_) <;> try simp only [tt, seval]) | (intro _; try simp only [tt, seval])
 all_goals first | contradiction | exact ⟨_, _, viE (by (repeat' split) <;> omega), end0 rfl⟩
end Go.Proofs.YtabhiapifcanoaaGreatDoor
namespace Go.Cv
open Go Go.RowKit Go.Dv
open Go.Vc (zeroC guardSlot run_loadVar_agg vis vis_of_cell CellF RowF ValsF D inN okV callable wp_value wp_skipped tyS TS sizeTS elemS fieldOff fieldOff_spec add_lit0 run_v tyS_one run_loadVar_one underlying_run wp_loop_nat callFunc_run run_alloc_box inN inN_iff Plan dsts dstsOps Cells oneCell_eq)
abbrev K1 := Rg → World → Prop
structure Gr (w w' : World) : Prop where
 size : w.heap.size ≤ w'.heap.size
 keep : ∀ b, b < w.heap.size → w'.heap[b]? = w.heap[b]?
 os : w'.os = w.os
 tape : w'.tape = w.tape
 output : w'.output = w.output
end Go.Cv
namespace Go.Cv
open Go Go.RowKit Go.Dv
open Go.Vc (vis vis_of_cell CellF RowF ValsF D okV Cells Grow add_lit0 callable)
def Res (P : Program) (w w' : World) (r : S) (v : Value) : Prop :=
 ∃ β ok, RelS P w' β ok (expS 9700 r) v ∧ (∀ b, ok b → ¬ ownB (back r []) β b) ∧ (∀ i o, Go.Dv.look (back r []) i = some o → RelO P w' β ok i o) ∧ (∀ b, ownB (back r []) β b → w.heap.size ≤ b) ∧
  (fps r []).flatten.Nodup ∧ (∀ b ∈ (fps r []).flatten, w.heap.size ≤ b ∧ ∃ cs t lh, w'.heap[b]? = some (.cells cs t lh) ∧ Lh cs.size lh)
section
variable {P : Program} {w w' : World}
theorem Cl.at {g : FuncId} {args : List S} {R : S → List (List C) → Prop} (h : Cl P g args [] R) (hp : plainL (args.flatMap cellsS) = true) {vs : List Value}
 (hv : RelA P w (fun _ => none) (fun _ => True) args vs) (hg : GlW w (fun _ => False)) :
 callable P g = true ∧ Calls P g vs.toArray w fun e w' => ∃ v, e = .returned v ∧ ∃ r, R r [] ∧ Gr w w' ∧ Res P w w' r v := by
 obtain ⟨e1, e2⟩ := plain_args 9500 hp
 have el : lent args [] = [] := by simp [lent, e2, expB]
 have hno : ∀ β b, ¬ ownB [] β b := fun β b ⟨i, o, h1, _⟩ => by simp [Go.Dv.look] at h1
 have hok : okA (fun _ => True) (lent args []) (fun _ => none) = fun _ => True := by
  funext b
  simp [okA, el, hno]
 refine ⟨h.1, (h.2 w (fun _ => none) (fun _ => True) vs ?_ ?_ ?_).mono ?_⟩
 ·rw [e1, hok]; exact hv
 ·rw [el]; exact ⟨fun i o hl => by simp [Go.Dv.look] at hl, fun i j o o' b hl => by simp [Go.Dv.look] at hl⟩
 ·exact hg.mono (fun _ _ _ => rfl) fun b hb _ => by rw [el] at hb; exact (hno _ _ hb).elim
 ·rintro e W' ⟨v, r, objs, β, rfl, hR, hP⟩
  have ho : objs = [] := List.eq_nil_of_length_eq_zero (by simpa using hP.len)
  subst ho
  refine ⟨v, rfl, r, hR, ⟨hP.tr.size, fun b hb => hP.tr.keep b hb (by rw [el]; exact hno _ b), hP.outer.1, hP.outer.2.1, hP.outer.2.2⟩, β, _, hP.rel, fun b hb => hb.1, hP.obs.rel, fun b hb => ?_, hP.fresh.1, fun b hb => ?_⟩
  ·by_cases hlt : b < w.heap.size
   ·have := hP.tr.own b hlt hb
    rw [el] at this; exact (hno _ _ this).elim
   ·omega
  ·obtain ⟨h1, h2, _⟩ := hP.fresh.2 b hb
   refine ⟨h1.elim id fun h => ?_, h2⟩
   rw [el] at h; exact (hno _ _ h).elim
theorem Res.val {x v : Value} (h : Res P w w' (.c (.v x)) v) : v = x := by
 obtain ⟨β, ok, h, _⟩ := h
 exact h.1
end
def told : List D → List (List (List Nat)) → List C
 | .lit v :: r, Fs => .v v :: told r Fs
 | .sl n ds :: r, F :: Fs => .sl n ds (some F) :: told r Fs
 | .sl n ds :: r, [] => .sl n ds none :: told r []
 | [], _ => []
theorem pool_ok {F G : List Nat} (h : ∀ x, F.count x ≤ G.count x) : Sb F G := h
end Go.Cv
set_option maxRecDepth 8000
namespace Go.Proofs.YtabhiapifcanoaaGreatDoor
open Go Go.Dv
open Go.Vc (D shrI xorI andI)
theorem idxAt {α : Type} {row : α → List D} {w : Nat} {l : List α} {i : Nat} {x : α} (hx : l[i]? = some x) (hl : ∀ x, (row x).length = w + 1) (C : List D → Prop) : (∃ ds', (l.flatMap row).drop (i * (w + 1)) = ds' ∧ ¬ ds' = [] ∧ C ds') = C (row x ++ (l.drop (i + 1)).flatMap row) := by
 rw [drop_row hl hx]
 exact propext ⟨fun ⟨_, h1, _, h3⟩ => h1 ▸ h3, fun h => ⟨_, rfl, fun h0 => by have := congrArg List.length h0; rw [List.length_append, hl] at this; simp at this, h⟩⟩
end Go.Proofs.YtabhiapifcanoaaGreatDoor
set_option maxRecDepth 8000
namespace Go.Proofs.YtabhiapifcanoaaGreatDoor
open Go Go.Dv
open Go.Vc (D shrI xorI andI)
open Go.Cv
theorem Tok.row_mk (kind : Int) (text : ByteArray) (at_ : Int) : (Tok.mk kind text at_).row = [int kind, str text, int at_] := rfl
def szTok (t : Tok) : Nat := t.text.size
def szToks (a : List Tok) : Nat := a.length + (a.map szTok).sum
theorem szTok_mk (kind : Int) (text : ByteArray) (at_ : Int) : szTok (.mk kind text at_) = text.size := rfl
theorem szToks_eq (a : List Tok) : szToks a = a.length + (a.map szTok).sum := rfl
theorem szToks_len {a : List Tok} (h : szToks a ≤ 1048576) : a.length ≤ 1048576 := by unfold szToks at h; omega
theorem szToks_text {a : List Tok} (h : szToks a ≤ 1048576) : ∀ t ∈ a, t.text.size ≤ 1048576 := fun t ht => by
 have : szTok t ≤ (a.map szTok).sum := by
  clear h
  induction a with
  | nil => cases ht
  | cons x r ih =>
   rw [List.map_cons, List.sum_cons]
   rcases List.mem_cons.1 ht with rfl | ht
   ·omega
   ·have := ih ht; omega
 have e : szTok t = t.text.size := rfl
 unfold szToks at h
 omega
theorem szTok_step (kind : Int) (text : ByteArray) (at_ : Int)  (l : Int) (h0 : 0 ≤ l) (h1 : l ≤ 1048576) : Cl Tryz.prog 41 [.ag (csOf (Tok.mk kind text at_).row), vi l] [] fun r _ => r = vi (subL l (szTok (Tok.mk kind text at_))) := by
 rw [szTok_mk, Tok.row_mk]
 refine cl_of_d follows_mixed false Tryz.func41 rfl (by kernel_rfl) ?_
 simp only [Tryz.f41, tt, seval]
 refine fun hs0 => ?_
 rw [wrap_id (n := l - text.size) (by omega) (by omega)]
 refine And.intro (fun h => ?_) (fun h => ?_)
 ·exact ⟨_, _, viE (by rw [subL_gt (by omega)]), end0 rfl⟩
 rw [show (l - text.size : Int) = subL l text.size from (subL_le (by omega)).symm] at *
 exact ⟨_, _, rfl, end0 rfl⟩
theorem szTok_d (t : Tok) (l : Int) (h0 : 0 ≤ l) (h1 : l ≤ 1048576) : Cl Tryz.prog 41 [.ag (csOf t.row), vi l] [] fun r _ => r = vi (subL l (szTok t)) := by
 obtain ⟨a, b, c⟩ := t
 exact szTok_step a b c l h0 h1
theorem szToks_step (a : List Tok) (hx : ∀ x ∈ a, ∀ l : Int, 0 ≤ l → l ≤ 1048576 → Cl Tryz.prog 41 [.ag (csOf x.row), vi l] [] fun r _ => r = vi (subL l (szTok x))) (l : Int) (h0 : 0 ≤ l) (h1 : l ≤ 1048576) : Cl Tryz.prog 14 [.c (.sl a.length (a.flatMap Tok.row) none), vi l] [] fun r _ => r = vi (subL l (szToks a)) := by
 rw [szToks_eq]
 refine cl_of_d follows_mixed false Tryz.func14 rfl (by kernel_rfl) ?_
 simp only [Tryz.f14, tt, seval]
 refine fun hs => ?_
 rw [wrap_id (n := l - a.length) (by omega) (by omega)]
 obtain ⟨tot, htot⟩ : ∃ tot, tot = (a.map szTok).sum := ⟨_, rfl⟩
 refine And.intro (fun h => ?_) (fun h => ?_)
 ·exact ⟨_, _, by rw [subL_gt (by omega)], end0 rfl⟩
 ·refine dLoop.intro (fun f L p => ∃ i : Nat, f 5 = vi i ∧ i ≤ a.length ∧ f 1 = vi (l - a.length - ((a.take i).map szTok).sum) ∧ 0 ≤ l - a.length - (((a.take i).map szTok).sum : Nat) ∧ L = [] ∧ p = none) (fun f _ _ => (a.length - ixS (f 5)).toNat) [] none ⟨SubO.nil _, PoSub.none _, ?_⟩ ?_
  ·simp only [tt, seval]
   exact ⟨0, rfl, by omega, by simp, by simp; omega⟩
  ·rintro g L p ⟨i, h5, hi, h1', hp, rfl, rfl⟩
   simp only [tt, seval] at h5 h1'
   obtain ⟨rst, hr⟩ := take_sum_le szTok a i
   simp only [tt, seval, h5, h1', Int.ofNat_lt]
   refine fun _ => And.intro (fun hlt => ?_) (fun hge => ?_)
   ·have hlt : i < a.length := by omega
    refine ⟨by omega, by omega, _, drop_row Tok.row_len (List.getElem?_eq_getElem hlt), Tok.ne _ _, ?_⟩
    have hts := take_succ_sum szTok hlt
    obtain ⟨rst', hr'⟩ := take_sum_le szTok a (i + 1)
    simp only [tt, seval, h5, h1', Tok.tk, Tok.row_len]
    refine call0 (hx a[i] (List.getElem_mem hlt) _ hp (by omega)) ?_ ?_ ?_
    ·decide
    ·simp only [tt, seval]
    rintro r rfl
    simp only [tt, seval, h5, h1']
    refine And.intro (fun hneg => ?_) (fun hpos => ?_)
    ·refine ⟨_, _, ?_, end0 rfl⟩
     rw [subL_gt]
     have : ¬ ((szTok a[i] : Int) ≤ l - a.length - ((a.take i).map szTok).sum) := fun h => by rw [subL_le h] at hneg; omega
     omega
    ·have hle : ((szTok a[i] : Int) ≤ l - a.length - ((a.take i).map szTok).sum) := Int.not_lt.1 fun h => by rw [subL_gt h] at hpos; omega
     rw [subL_le hle, wrap_id (n := (i : Int) + 1) (by omega) (by omega)]
     exact ⟨[], none, SubO.nil _, PoSub.none _, ⟨i + 1, by simp, by omega, viE (by rw [hts]; omega), by rw [hts]; omega, rfl, rfl⟩, by simp only [ixS]; omega⟩
   ·have : i = a.length := by omega
    subst this
    refine ⟨_, _, ?_, end0 rfl⟩
    rw [List.take_length] at hp
    rw [List.take_length, subL_le (by omega)]
    exact viE (by omega)
theorem szToks_d (a : List Tok) (l : Int) (h0 : 0 ≤ l) (h1 : l ≤ 1048576) : Cl Tryz.prog 14 [.c (.sl a.length (a.flatMap Tok.row) none), vi l] [] fun r _ => r = vi (subL l (szToks a)) := szToks_step a (fun x _ => szTok_d x) l h0 h1
theorem toTok_d (t : Tok) (h : szTok t ≤ 1048576) : Cl Tryz.prog 47 [.ag (csOf t.row)] [] fun r _ => r = .ag (csOf t.row) := by
 obtain ⟨a, b, c⟩ := t
 rw [Tok.row_mk]
 refine cl_of_d follows_mixed false Tryz.func47 rfl (by kernel_rfl) ?_
 simp only [Tryz.f47, tt, seval]
 exact ⟨_, _, rfl, end0 rfl⟩
theorem toToks_step (a : List Tok) (hx : ∀ x ∈ a, szTok x ≤ 1048576 → Cl Tryz.prog 47 [.ag (csOf x.row)] [] fun r _ => r = .ag (csOf x.row)) (h : szToks a ≤ 1048576) : Cl Tryz.prog 17 [.c (.sl a.length (a.flatMap Tok.row) none)] [] fun r _ => r = .c (.ow 56 a.length (a.flatMap Tok.row) none) := by
 rw [szToks_eq] at h
 have hl : a.length ≤ 1048576 := by omega
 refine cl_of_d follows_mixed false Tryz.func17 rfl (by kernel_rfl) ?_
 simp only [Tryz.f17, tt, seval]
 refine fun _ => ⟨by omega, by omega, by omega, ?_⟩
 refine dLoop.intro (fun f L p => ∃ i : Nat, f 4 = vi i ∧ i ≤ a.length ∧ L = [(7, .arr 56 a.length ((a.take i).flatMap Tok.row ++ (List.replicate (a.length - i) [int 0, str ByteArray.empty, int 0]).flatten) none)] ∧ p = none) (fun f _ _ => (a.length - ixS (f 4)).toNat) [(7, .arr 56 a.length (List.replicate a.length [int 0, str ByteArray.empty, int 0]).flatten none)] none ⟨SubO.cons rfl (SubO.nil _), PoSub.none _, ?_⟩ ?_
 ·simp only [tt, seval]
  exact ⟨0, rfl, by omega, by simp⟩
 ·rintro g L p ⟨i, h4, hi, rfl, rfl⟩
  simp only [tt, seval] at h4
  simp only [tt, seval, h4, Int.ofNat_lt]
  refine fun _ => And.intro (fun hlt => ?_) (fun hge => ?_)
  ·have hlt : i < a.length := by omega
   have hts := take_succ_sum szTok hlt
   obtain ⟨rst', hr'⟩ := take_sum_le szTok a (i + 1)
   refine ⟨by omega, by omega, _, drop_row Tok.row_len (List.getElem?_eq_getElem hlt), Tok.ne _ _, ?_⟩
   simp only [tt, seval, h4, Tok.tk, Tok.row_len]
   refine call0 (hx a[i] (List.getElem_mem hlt) (by omega)) ?_ ?_ ?_
   ·decide
   ·simp only [tt, seval]
   rintro r rfl
   simp only [tt, seval, h4, Tok.ds, Tok.row_len]
   refine ⟨by omega, by omega, by rw [fillLen Tok.row_len rfl a (by omega)]; omega, ?_⟩
   rw [wrS i (by omega)]
   exact ⟨_, none, SubO.cons rfl (SubO.nil _), PoSub.none _, ⟨i + 1, rfl, by omega, congrArg (fun x => [(7, O.arr 56 a.length x none)]) (fillRow Tok.row_len rfl hlt), rfl⟩, by simp only [ixS]; omega⟩
  ·have : i = a.length := by omega
   subst this
   rw [fillLast]
   refine ⟨_, [], rfl, endOk ?_⟩
   simp only [tt, seval]
theorem toToks_o (a : List Tok) (h : szToks a ≤ 1048576) : Cl Tryz.prog 17 [.c (.sl a.length (a.flatMap Tok.row) none)] [] fun r _ => r = .c (.ow 56 a.length (a.flatMap Tok.row) none) := toToks_step a (fun x _ => toTok_d x) h
theorem eqTok_step (kind : Int) (text : ByteArray) (at_ : Int)  : Cl Tryz.prog 51 [.ag (csOf (Tok.mk kind text at_).row), .ag (csOf (Tok.mk kind text at_).row)] [] fun r _ => r = vb true := by
 rw [Tok.row_mk]
 refine cl_of_d follows_mixed false Tryz.func51 rfl (by kernel_rfl) ?_
 simp only [Tryz.f51, tt, seval]
 exact ⟨_, _, rfl, end0 rfl⟩
theorem eqToks_step (a : List Tok) (hx : ∀ x ∈ a, Cl Tryz.prog 51 [.ag (csOf x.row), .ag (csOf x.row)] [] fun r _ => r = vb true) : Cl Tryz.prog 19 [.c (.sl a.length (a.flatMap Tok.row) none), .c (.sl a.length (a.flatMap Tok.row) none)] [] fun r _ => r = vb true := by
 refine cl_of_d follows_mixed false Tryz.func19 rfl (by kernel_rfl) ?_
 simp only [Tryz.f19, tt, seval]
 refine fun _ _ => ?_
 refine dLoop.intro (fun f L p => ∃ i : Nat, f 5 = vi i ∧ i ≤ a.length ∧ L = [] ∧ p = none) (fun f _ _ => (a.length - ixS (f 5)).toNat) [] none ⟨SubO.nil _, PoSub.none _, ?_⟩ ?_
 ·simp only [tt, seval]
  exact ⟨0, rfl, by omega⟩
 ·rintro g L p ⟨i, h5, hi, rfl, rfl⟩
  simp only [tt, seval] at h5
  simp only [tt, seval, h5, Int.ofNat_lt]
  refine fun _ => And.intro (fun hlt => ?_) (fun hge => ?_)
  ·have hlt : i < a.length := by omega
   refine dDrawn.intro [] (pln [0, 2, 4, 6, 8, 10, 12, 14, 17, 18]) (by kernel_rfl) ?_
   simp only [tt, seval]
   simp only [tt, seval, h5]
   refine ⟨by omega, by omega, _, drop_row Tok.row_len (List.getElem?_eq_getElem hlt), Tok.ne _ _, ?_⟩
   simp only [tt, seval, h5, Tok.tk, Tok.row_len]
   refine ⟨by omega, by omega, _, drop_row Tok.row_len (List.getElem?_eq_getElem hlt), Tok.ne _ _, ?_⟩
   simp only [tt, seval, h5, Tok.tk, Tok.row_len]
   refine call0 (hx a[i] (List.getElem_mem hlt)) ?_ ?_ ?_
   ·decide
   ·simp only [tt, seval]
   rintro r rfl
   simp only [tt, seval, h5]
   rw [wrS i (by omega)]
   exact ⟨[], none, SubO.nil _, PoSub.none _, ⟨i + 1, rfl, by omega, rfl, rfl⟩, by simp only [ixS]; omega⟩
  ·exact ⟨_, _, rfl, end0 rfl⟩
theorem eqToks_d (a : List Tok) : Cl Tryz.prog 19 [.c (.sl a.length (a.flatMap Tok.row) none), .c (.sl a.length (a.flatMap Tok.row) none)] [] fun r _ => r = vb true := eqToks_step a fun x _ => by
 cases x; exact eqTok_step _ _ _
end Go.Proofs.YtabhiapifcanoaaGreatDoor
