/-
  The reference and the program read and print words alike.
  Conditions: none.
-/
import Derived.Test.YtfdcibofiibppaaGreatDoorFTypes
import Derived.Shelf.Strings.BuilderF
import Derived.Shelf.LaysM
import Derived.Shelf.LaysC
import Derived.Shelf.Strconv.Itoa3
import Derived.Shelf.Strings.Split
import Derived.Shelf.Strings.Replace
import Derived.Shelf.Strconv.AtoiAll
import Derived.Test.YtfdcibofiibppaaGreatDoorProg
import Derived.Lib.UnsafeStr
import Derived.Lib.AtoiTie
set_option linter.unusedVariables false
set_option linter.unusedSimpArgs false
set_option maxRecDepth 8000
namespace Go.Proofs.YtfdcibofiibppaaGreatDoor
open Go Go.Dv
open Go.Vc (D shrI xorI andI and255)

abbrev int (n : Int) : D := .lit (.int .i64 n)
abbrev bool (b : Bool) : D := .lit (.bool b)
abbrev str (s : ByteArray) : D := .lit (.string s)
abbrev vi (n : Int) : S := .c (.v (.int .i64 n))
abbrev vb (b : Bool) : S := .c (.v (.bool b))
abbrev vs (s : ByteArray) : S := .c (.v (.string s))
structure Val where
  kind : Int
  num : Int
  text : ByteArray
def Val.row (v : Val) : List D := [int v.kind, int v.num, str v.text]
theorem Val.row_len (v : Val) : v.row.length = 3 := rfl
theorem Val.tk (v : Val) (r : List D) : takeD 3 (v.row ++ r) = some v.row := takeD_row rfl
theorem Val.ne (v : Val) (r : List D) : v.row ++ r ≠ [] := fun h => by cases h
def vrow (l : List Val) : List D := [.sl l.length (l.flatMap Val.row)]
structure Fa where
  code : Int
  name : ByteArray
def Fa.row (v : Fa) : List D := [int v.code, str v.name]
structure Res where
  f : Fa
  err : Int
  rows : List (List Val)
  count : Int
def Res.row (v : Res) : List D := [int v.f.code, str v.f.name, int v.err, .sl v.rows.length (v.rows.flatMap vrow), int v.count]
def subL (l : Int) (s : Nat) : Int := if (s : Int) ≤ l then l - s else -1
def szVal (v : Val) : Nat := v.text.size
theorem subL_le {l : Int} {s : Nat} (h : (s : Int) ≤ l) : subL l s = l - s := if_pos h
theorem subL_gt {l : Int} {s : Nat} (h : l < s) : subL l s = -1 := if_neg (by omega)
theorem subL_bounds {l : Int} {s : Nat} (h0 : 0 ≤ l) : -1 ≤ subL l s ∧ subL l s ≤ l := by unfold subL; split <;> omega
theorem subL_add {l : Int} {a b : Nat} (h : 0 ≤ subL l a) : subL l (a + b) = subL (subL l a) b := by
  unfold subL at *
  split at h
  · rename_i h1
    rw [if_pos h1]
    by_cases h2 : ((a + b : Nat) : Int) ≤ l
    · rw [if_pos h2, if_pos (by omega)]; omega
    · rw [if_neg h2, if_neg (by omega)]
  · omega
theorem subL_neg {l : Int} {a b : Nat} (h : subL l a < 0) (h0 : 0 ≤ l) : subL l (a + b) = -1 := by
  unfold subL at *
  split at h
  · omega
  · exact if_neg (by omega)
theorem viE {a b : Int} (h : a = b) : vi a = vi b := by rw [h]
theorem vsE {a b : ByteArray} (h : a = b) : vs a = vs b := by rw [h]
theorem vbE {a b : Bool} (h : a = b) : vb a = vb b := by rw [h]
theorem take_succ_sum {α : Type} (g : α → Nat) {l : List α} {i : Nat} (h : i < l.length) : ((l.take (i + 1)).map g).sum = ((l.take i).map g).sum + g l[i] := by
  rw [List.take_succ_eq_append_getElem h, List.map_append, List.sum_append]; simp only [List.map_cons, List.map_nil, List.sum_cons, List.sum_nil, Nat.add_zero]
theorem take_sum_le {α : Type} (g : α → Nat) (l : List α) (i : Nat) : ∃ r, (l.map g).sum = ((l.take i).map g).sum + r := ⟨((l.drop i).map g).sum, by
  conv => lhs; rw [← List.take_append_drop i l]
  rw [List.map_append, List.sum_append]⟩
theorem szValue_d (v : Val) (l : Int) (h0 : 0 ≤ l) (h1 : l ≤ 1048576) : Cl Tryz.prog 21 [.ag (csOf v.row), vi l] [] fun r _ => r = vi (subL l (szVal v)) := by
  rw [Val.row]
  refine cl_of_d follows_mixed false Tryz.func21 rfl (by kernel_rfl) ?_
  simp only [Tryz.f21, tt, seval]
  refine fun hs => ?_
  rw [wrap_id (n := l - v.text.size) (by omega) (by omega)]
  refine And.intro (fun h => ?_) (fun h => ?_)
  · exact ⟨_, _, by rw [szVal, subL_gt (by omega)], end0 rfl⟩
  · exact ⟨_, _, by rw [szVal, subL_le (by omega)], end0 rfl⟩

end Go.Proofs.YtfdcibofiibppaaGreatDoor

set_option maxRecDepth 8000
namespace Go.Proofs.YtfdcibofiibppaaGreatDoor
open Go Go.Dv
open Go.Vc (D shrI xorI andI and255)

theorem toValue_d (v : Val) : Cl Tryz.prog 27 [.ag (csOf v.row)] [] fun r _ => r = .ag (csOf v.row) := by
  rw [Val.row]
  refine cl_of_d follows_mixed false Tryz.func27 rfl (by kernel_rfl) ?_
  simp only [Tryz.f27, tt, seval]
  exact ⟨_, _, rfl, end0 rfl⟩
theorem fillLen {α : Type} {row : α → List D} {sz : Nat} (hsz : ∀ e, (row e).length = sz) {z : List D} (hz : z.length = sz) (l : List α) {i : Nat} (h : i ≤ l.length) :
    ((l.take i).flatMap row ++ (List.replicate (l.length - i) z).flatten).length = l.length * sz := by
  rw [List.length_append, flatMap_len hsz, List.length_flatten, List.map_replicate, List.sum_replicate_nat, hz, List.length_take, Nat.min_eq_left h, ← Nat.add_mul]
  congr 1; omega
theorem fillRow {α : Type} {row : α → List D} {sz : Nat} (hsz : ∀ e, (row e).length = sz) {z : List D} (hz : z.length = sz) {l : List α} {i : Nat} (h : i < l.length) :
    List.take (i * sz) ((l.take i).flatMap row ++ (List.replicate (l.length - i) z).flatten) ++ (row l[i] ++ List.drop (i * sz + sz) ((l.take i).flatMap row ++ (List.replicate (l.length - i) z).flatten)) =
      (l.take (i + 1)).flatMap row ++ (List.replicate (l.length - (i + 1)) z).flatten := by
  have hd : ((l.take i).flatMap row).length = i * sz := by rw [flatMap_len hsz, List.length_take, Nat.min_eq_left (by omega)]
  rw [List.take_left' hd, show l.length - i = l.length - (i + 1) + 1 by omega, List.replicate_succ, List.flatten_cons, ← List.append_assoc _ z, List.drop_left' (by simp [hd, hz]), List.take_succ_eq_append_getElem h, List.flatMap_append]
  simp only [List.flatMap_cons, List.flatMap_nil, List.append_nil, List.append_assoc]
theorem fillLast {α : Type} {row : α → List D} (z : List D) (l : List α) : (l.take l.length).flatMap row ++ (List.replicate (l.length - l.length) z).flatten = l.flatMap row := by simp
theorem eqValue_d (v : Val) : Cl Tryz.prog 33 [.ag (csOf v.row), .ag (csOf v.row)] [] fun r _ => r = vb true := by
  rw [Val.row]
  refine cl_of_d follows_mixed false Tryz.func33 rfl (by kernel_rfl) ?_
  simp only [Tryz.f33, tt, seval]
  exact ⟨_, _, rfl, end0 rfl⟩

end Go.Proofs.YtfdcibofiibppaaGreatDoor

set_option maxRecDepth 8000
namespace Go.Proofs.YtfdcibofiibppaaGreatDoor
open Go Go.Dv
open Go.Vc (D shrI xorI andI and255)

abbrev vu (b : Int) : S := .c (.v (.int .u8 b))
theorem l1In_d (a l h : Int) : Cl Tryz.prog 150 [vi a, vi l, vi h] [] fun r _ => r = vb (decide (l ≤ a ∧ a ≤ h)) := by
  refine cl_of_d follows_mixed false Tryz.func150 rfl (by kernel_rfl) ?_
  simp only [Tryz.f150, tt, seval]
  all_goals repeat' first | (refine And.intro (fun h => ?_) (fun h => ?_) <;> try simp only [tt, seval]) | (intro _; try simp only [tt, seval])
  all_goals (refine ⟨_, [], vbE (Bool.eq_iff_iff.2 ?_), end0 rfl⟩)
  all_goals (simp only [decide_eq_true_eq, decide_eq_false_iff_not, Bool.or_eq_true, Bool.and_eq_true, Bool.false_eq_true, Bool.not_eq_true', Bool.not_eq_false', Bool.not_eq_true, true_iff, false_iff] at *)
  all_goals omega
theorem l2Figure_d (a : Int) : Cl Tryz.prog 228 [vu a] [] fun r _ => r = vb (decide (48 ≤ a ∧ a ≤ 57)) := by
  refine cl_of_d follows_mixed false Tryz.func228 rfl (by kernel_rfl) ?_
  simp only [Tryz.f228, tt, seval]
  all_goals repeat' first | (refine And.intro (fun h => ?_) (fun h => ?_) <;> try simp only [tt, seval]) | (intro _; try simp only [tt, seval])
  all_goals (refine ⟨_, [], vbE (Bool.eq_iff_iff.2 ?_), end0 rfl⟩)
  all_goals (simp only [decide_eq_true_eq, decide_eq_false_iff_not, Bool.or_eq_true, Bool.and_eq_true, Bool.false_eq_true, Bool.not_eq_true', Bool.not_eq_false', Bool.not_eq_true, true_iff, false_iff] at *)
  all_goals omega
theorem isDigit_d (a : Int) : Cl Tryz.prog 226 [vu a] [] fun r _ => r = vb (decide (48 ≤ a ∧ a ≤ 57)) := by
  refine cl_of_d follows_mixed false Tryz.func226 rfl (by kernel_rfl) ?_
  simp only [Tryz.f226, tt, seval]
  all_goals repeat' first | (refine And.intro (fun h => ?_) (fun h => ?_) <;> try simp only [tt, seval]) | (intro _; try simp only [tt, seval])
  all_goals (refine ⟨_, [], vbE (Bool.eq_iff_iff.2 ?_), end0 rfl⟩)
  all_goals (simp only [decide_eq_true_eq, decide_eq_false_iff_not, Bool.or_eq_true, Bool.and_eq_true, Bool.false_eq_true, Bool.not_eq_true', Bool.not_eq_false', Bool.not_eq_true, true_iff, false_iff] at *)
  all_goals omega
def letB (a : Int) : Bool := decide (97 ≤ a ∧ a ≤ 122) || decide (65 ≤ a ∧ a ≤ 90) || decide (a = 95)
theorem l2Letter_d (a : Int) : Cl Tryz.prog 229 [vu a] [] fun r _ => r = vb (letB a) := by
  refine cl_of_d follows_mixed false Tryz.func229 rfl (by kernel_rfl) ?_
  simp only [Tryz.f229, tt, seval]
  all_goals repeat' first | (refine And.intro (fun h => ?_) (fun h => ?_) <;> try simp only [tt, seval]) | (intro _; try simp only [tt, seval])
  all_goals (refine ⟨_, [], vbE (Bool.eq_iff_iff.2 ?_), end0 rfl⟩)
  all_goals (simp only [decide_eq_true_eq, decide_eq_false_iff_not, Bool.or_eq_true, Bool.and_eq_true, Bool.false_eq_true, Bool.not_eq_true', Bool.not_eq_false', Bool.not_eq_true, true_iff, false_iff, letB] at *)
  all_goals omega
theorem isStart_d (a : Int) : Cl Tryz.prog 238 [vu a] [] fun r _ => r = vb (letB a) := by
  refine cl_of_d follows_mixed false Tryz.func238 rfl (by kernel_rfl) ?_
  simp only [Tryz.f238, tt, seval]
  all_goals repeat' first | (refine And.intro (fun h => ?_) (fun h => ?_) <;> try simp only [tt, seval]) | (intro _; try simp only [tt, seval])
  all_goals (refine ⟨_, [], vbE (Bool.eq_iff_iff.2 ?_), end0 rfl⟩)
  all_goals (simp only [decide_eq_true_eq, decide_eq_false_iff_not, Bool.or_eq_true, Bool.and_eq_true, Bool.false_eq_true, Bool.not_eq_true', Bool.not_eq_false', Bool.not_eq_true, true_iff, false_iff, letB] at *)
  all_goals omega
theorem NameOk_d (s : ByteArray) : Cl Tryz.prog 148 [vs s] [] fun r _ => r = vb (decide (1 ≤ s.size ∧ s.size ≤ 20)) := by
  refine cl_of_d follows_mixed false Tryz.func148 rfl (by kernel_rfl) ?_
  simp only [Tryz.f148, tt, seval]
  refine fun hs => ?_
  refine call0 (l1In_d s.size 1 20) ?_ ?_ ?_
  · decide
  · simp only [tt, seval]
  rintro r rfl
  simp only [tt, seval]
  exact ⟨_, _, vbE (by simp only [decide_eq_decide]; omega), end0 rfl⟩
theorem iNameOk_d (s : ByteArray) : Cl Tryz.prog 96 [vs s] [] fun r _ => r = vb (decide (1 ≤ s.size ∧ s.size ≤ 20)) := by
  refine cl_of_d follows_mixed false Tryz.func96 rfl (by kernel_rfl) ?_
  simp only [Tryz.f96, tt, seval]
  refine fun hs => ?_
  all_goals repeat' first | (refine And.intro (fun h => ?_) (fun h => ?_) <;> try simp only [tt, seval]) | (intro _; try simp only [tt, seval])
  all_goals (refine ⟨_, [], vbE (Bool.eq_iff_iff.2 ?_), end0 rfl⟩)
  all_goals (simp only [decide_eq_true_eq, decide_eq_false_iff_not, Bool.or_eq_true, Bool.and_eq_true, Bool.false_eq_true, Bool.not_eq_true', Bool.not_eq_false', Bool.not_eq_true, true_iff, false_iff] at *)
  all_goals omega
theorem isPart_d (a : Int) : Cl Tryz.prog 227 [vu a] [] fun r _ => r = vb (letB a || decide (48 ≤ a ∧ a ≤ 57)) := by
  refine cl_of_d follows_mixed false Tryz.func227 rfl (by kernel_rfl) ?_
  simp only [Tryz.f227, tt, seval]
  refine call0 (isStart_d a) ?_ ?_ ?_
  · decide
  · simp only [tt, seval]
  rintro r rfl
  simp only [tt, seval]
  refine And.intro (fun h => ?_) (fun h => ?_)
  · simp only [tt, seval]
    exact ⟨_, _, vbE (by rw [h]; rfl), end0 rfl⟩
  · simp only [tt, seval]
    refine call0 (isDigit_d a) ?_ ?_ ?_
    · decide
    · simp only [tt, seval]
    rintro r rfl
    simp only [tt, seval]
    exact ⟨_, _, vbE (by rw [h]; rfl), end0 rfl⟩
def up8 (b : UInt8) : UInt8 := if 97 ≤ b.toNat ∧ b.toNat ≤ 122 then b - 32 else b
def foldB (s : ByteArray) : ByteArray := ⟨(s.data.toList.map up8).toArray⟩
theorem bytesD_len (l : List UInt8) : (bytesD l).length = l.length := by simp [bytesD]
theorem bytesD_drop {l : List UInt8} {i : Nat} (h : i < l.length) : (bytesD l).drop i = D.lit (.int .u8 (l[i].toNat : Int)) :: (bytesD l).drop (i + 1) := by
  unfold bytesD
  rw [← List.map_drop, ← List.map_drop, List.drop_eq_getElem_cons h]; rfl
theorem bytesD_set {l : List UInt8} {i : Nat} {b : UInt8} (h : i < l.length) : (bytesD l).take i ++ (D.lit (.int .u8 (b.toNat : Int)) :: (bytesD l).drop (i + 1)) = bytesD (l.set i b) := by
  unfold bytesD
  rw [List.set_eq_take_append_cons_drop, if_pos h, List.map_append, List.map_cons, List.map_take, List.map_drop]
theorem size_toList (s : ByteArray) : s.data.toList.length = s.size := by simp
def upI (l : List UInt8) (i : Nat) : List UInt8 := (l.take i).map up8 ++ l.drop i
theorem upI_len (l : List UInt8) (i : Nat) : (upI l i).length = l.length := by rw [upI, List.length_append, List.length_map, ← List.length_append, List.take_append_drop]
theorem upI_get {l : List UInt8} {i : Nat} (h : i < l.length) : (upI l i)[i]'(by rw [upI_len]; exact h) = l[i] := by
  have hl : ((l.take i).map up8).length = i := by simp; omega
  have : (upI l i)[i]? = some l[i] := by
    rw [upI, List.getElem?_append_right (by omega), hl, Nat.sub_self, List.drop_eq_getElem_cons h]; rfl
  rw [List.getElem?_eq_getElem (by rw [upI_len]; exact h)] at this
  exact Option.some.inj this
theorem upI_step {l : List UInt8} {i : Nat} (h : i < l.length) : (upI l i).set i (up8 l[i]) = upI l (i + 1) := by
  have hl : ((l.take i).map up8).length = i := by simp; omega
  unfold upI
  rw [List.set_append_right _ _ (by omega), hl, Nat.sub_self, List.drop_eq_getElem_cons h, List.set_cons_zero, List.take_succ_eq_append_getElem h, List.map_append]
  simp
theorem upI_same {l : List UInt8} {i : Nat} (h : i < l.length) (hu : up8 l[i] = l[i]) : upI l i = upI l (i + 1) := by
  rw [← upI_step h, hu]
  conv => rhs; rw [← upI_get h]
  rw [List.set_getElem_self]
theorem upI_all (l : List UInt8) : upI l l.length = l.map up8 := by simp [upI]
theorem up8_id {b : UInt8} (h : ¬ (97 ≤ b.toNat ∧ b.toNat ≤ 122)) : up8 b = b := if_neg h
theorem up8_low {b : UInt8} (h : 97 ≤ b.toNat) (h' : b.toNat ≤ 122) : ((up8 b).toNat : Int) = b.toNat - 32 := by
  unfold up8
  rw [if_pos ⟨h, h'⟩, UInt8.toNat_sub_of_le _ _ (by rw [UInt8.le_iff_toNat_le]; show 32 ≤ _; omega)]
  show ((b.toNat - 32 : Nat) : Int) = _
  omega
theorem Fold_d (s : ByteArray) (hs : s.size ≤ 1048576) : Cl Tryz.prog 182 [vs s] [] fun r _ => r = vs (foldB s) := by
  obtain ⟨l, hl⟩ : ∃ l, l = s.data.toList := ⟨_, rfl⟩
  have hll : l.length = s.size := by rw [hl]; exact size_toList s
  refine cl_of_d follows_mixed false Tryz.func182 rfl (by kernel_rfl) ?_
  simp only [Tryz.f182, tt, seval]
  rw [← hl]
  refine dLoop.intro (fun f L p => ∃ i : Nat, f 4 = vi i ∧ i ≤ s.size ∧ L = [(6, .arr 5 s.size (bytesD (upI l i)) none)] ∧ p = none) (fun f _ _ => (s.size - ixS (f 4)).toNat) [(6, .arr 5 s.size (bytesD l) none)] none ⟨SubO.cons rfl (SubO.nil _), PoSub.none _, ?_⟩ ?_
  · simp only [tt, seval]
    exact ⟨0, rfl, by omega, by simp [upI]⟩
  · rintro g L p ⟨i, h4, hi, rfl, rfl⟩
    simp only [tt, seval] at h4
    simp only [tt, seval, h4, Int.ofNat_lt]
    refine fun _ => And.intro (fun hlt => ?_) (fun hge => ?_)
    · have hlt' : i < (upI l i).length := by rw [upI_len]; omega
      have hd := bytesD_drop hlt'
      rw [upI_get (by omega)] at hd
      have hi0 : (0 : Int) ≤ (i : Int) := Int.natCast_nonneg i
      have hlI : (i : Int) < (s.size : Int) := by omega
      simp only [tt, seval, h4, hd, Nat.mul_one, hlt, hi0, hlI]
      refine And.intro (fun h => ?_) (fun h => ?_)
      · simp only [tt, seval, h4, hd, Nat.mul_one, hlt, hi0, hlI]
        simp only [decide_eq_true_eq] at h
        refine And.intro (fun h' => ?_) (fun h' => ?_)
        · rw [wrap_id (n := (i : Int) + 1) (by omega) (by omega), IntWalk.u8_in _ ⟨by omega, by omega⟩, ← up8_low (by omega) (by omega), bytesD_set hlt', upI_step (by omega)]
          exact ⟨by rw [bytesD_len, upI_len]; omega, _, none, SubO.cons rfl (SubO.nil _), PoSub.none _, ⟨i + 1, rfl, by omega, rfl, rfl⟩, by simp only [ixS]; omega⟩
        · rw [wrap_id (n := (i : Int) + 1) (by omega) (by omega)]
          have hsame := upI_same (l := l) (i := i) (by omega) (up8_id fun h1 => by omega)
          exact ⟨_, none, SubO.cons rfl (SubO.nil _), PoSub.none _, ⟨i + 1, rfl, by omega, congrArg (fun x => [(6, O.arr 5 s.size (bytesD x) none)]) hsame, rfl⟩, by simp only [ixS]; omega⟩
      · simp only [tt, seval, h4, hd, Nat.mul_one, hlt, hi0, hlI]
        rw [wrap_id (n := (i : Int) + 1) (by omega) (by omega)]
        have hsame := upI_same (l := l) (i := i) (by omega) (up8_id fun h1 => by simp only [decide_eq_false_iff_not] at h; omega)
        exact ⟨_, none, SubO.cons rfl (SubO.nil _), PoSub.none _, ⟨i + 1, rfl, by omega, congrArg (fun x => [(6, O.arr 5 s.size (bytesD x) none)]) hsame, rfl⟩, by simp only [ixS]; omega⟩
    · have : i = s.size := by omega
      subst this
      refine ⟨by kernel_rfl, by simp only [maxLen]; omega, upI l s.size, by rw [upI_len]; exact hll, rfl, ?_⟩
      simp only [tt, seval]
      exact ⟨_, _, vsE (by rw [← hll, upI_all, hl]; rfl), end0 rfl⟩
theorem iFold_d (s : ByteArray) (hs : s.size ≤ 1048576) : Cl Tryz.prog 201 [vs s] [] fun r _ => r = vs (foldB s) := by
  obtain ⟨l, hl⟩ : ∃ l, l = s.data.toList := ⟨_, rfl⟩
  have hll : l.length = s.size := by rw [hl]; exact size_toList s
  refine cl_of_d follows_mixed false Tryz.func201 rfl (by kernel_rfl) ?_
  simp only [Tryz.f201, tt, seval]
  rw [← hl]
  refine fun _ => ?_
  refine dLoop.intro (fun f L p => ∃ i : Nat, f 10 = vi i ∧ i ≤ s.size ∧ L = [(7, .arr 5 s.size (bytesD (upI l i)) none)] ∧ p = none) (fun f _ _ => (s.size - ixS (f 10)).toNat) [(7, .arr 5 s.size (bytesD l) none)] none ⟨SubO.cons rfl (SubO.nil _), PoSub.none _, ?_⟩ ?_
  · simp only [tt, seval]
    exact ⟨0, rfl, by omega, by simp [upI]⟩
  · rintro g L p ⟨i, h4, hi, rfl, rfl⟩
    simp only [tt, seval] at h4
    simp only [tt, seval, h4, Int.ofNat_lt]
    refine And.intro (fun hlt => ?_) (fun hge => ?_)
    · have hlt' : i < (upI l i).length := by rw [upI_len]; omega
      have hd := bytesD_drop hlt'
      rw [upI_get (by omega)] at hd
      have hi0 : (0 : Int) ≤ (i : Int) := Int.natCast_nonneg i
      have hlI : (i : Int) < (s.size : Int) := by omega
      simp only [tt, seval, h4, hd, Nat.mul_one, hlt, hi0, hlI]
      refine And.intro (fun h => ?_) (fun h => ?_)
      · simp only [tt, seval, h4, hd, Nat.mul_one, hlt, hi0, hlI]
        simp only [decide_eq_true_eq] at h
        refine And.intro (fun h' => ?_) (fun h' => ?_)
        · rw [wrap_id (n := (i : Int) + 1) (by omega) (by omega), IntWalk.u8_in ((l[i].toNat : Int) - 97) ⟨by omega, by omega⟩, IntWalk.u8_in _ ⟨by omega, by omega⟩, show (l[i].toNat : Int) - 97 + 65 = l[i].toNat - 32 by omega, ← up8_low (by omega) (by omega), bytesD_set hlt', upI_step (by omega)]
          exact ⟨by rw [bytesD_len, upI_len]; omega, _, none, SubO.cons rfl (SubO.nil _), PoSub.none _, ⟨i + 1, rfl, by omega, rfl, rfl⟩, by simp only [ixS]; omega⟩
        · rw [wrap_id (n := (i : Int) + 1) (by omega) (by omega)]
          have hsame := upI_same (l := l) (i := i) (by omega) (up8_id fun h1 => by omega)
          exact ⟨_, none, SubO.cons rfl (SubO.nil _), PoSub.none _, ⟨i + 1, rfl, by omega, congrArg (fun x => [(7, O.arr 5 s.size (bytesD x) none)]) hsame, rfl⟩, by simp only [ixS]; omega⟩
      · simp only [tt, seval, h4, hd, Nat.mul_one, hlt, hi0, hlI]
        rw [wrap_id (n := (i : Int) + 1) (by omega) (by omega)]
        have hsame := upI_same (l := l) (i := i) (by omega) (up8_id fun h1 => by simp only [decide_eq_false_iff_not] at h; omega)
        exact ⟨_, none, SubO.cons rfl (SubO.nil _), PoSub.none _, ⟨i + 1, rfl, by omega, congrArg (fun x => [(7, O.arr 5 s.size (bytesD x) none)]) hsame, rfl⟩, by simp only [ixS]; omega⟩
    · have : i = s.size := by omega
      subst this
      refine ⟨by kernel_rfl, by simp only [maxLen]; omega, upI l s.size, by rw [upI_len]; exact hll, rfl, ?_⟩
      simp only [tt, seval]
      exact ⟨_, _, vsE (by rw [← hll, upI_all, hl]; rfl), end0 rfl⟩

end Go.Proofs.YtfdcibofiibppaaGreatDoor

set_option maxRecDepth 8000
namespace Go.Proofs.YtfdcibofiibppaaGreatDoor
open Go Go.Dv
open Go.Vc (D shrI xorI andI and255)

def srow (s : ByteArray) : List D := [str s]
theorem srow_len (n : ByteArray) : (srow n).length = 1 := rfl
theorem srow_tk (v : ByteArray) (r : List D) : takeD 1 (srow v ++ r) = some (srow v) := takeD_row rfl
theorem srow_ne (v : ByteArray) (r : List D) : srow v ++ r ≠ [] := fun h => by cases h
def kws : List ByteArray := [⟨#[83, 69, 76, 69, 67, 84]⟩, ⟨#[68, 73, 83, 84, 73, 78, 67, 84]⟩, ⟨#[70, 82, 79, 77]⟩, ⟨#[74, 79, 73, 78]⟩, ⟨#[79, 78]⟩, ⟨#[87, 72, 69, 82, 69]⟩, ⟨#[79, 82, 68, 69, 82]⟩, ⟨#[66, 89]⟩, ⟨#[65, 83, 67]⟩, ⟨#[68, 69, 83, 67]⟩, ⟨#[76, 73, 77, 73, 84]⟩, ⟨#[65, 83]⟩, ⟨#[65, 78, 68]⟩, ⟨#[79, 82]⟩, ⟨#[78, 79, 84]⟩, ⟨#[73, 83]⟩, ⟨#[73, 78]⟩, ⟨#[66, 69, 84, 87, 69, 69, 78]⟩, ⟨#[69, 88, 73, 83, 84, 83]⟩, ⟨#[78, 85, 76, 76]⟩, ⟨#[84, 82, 85, 69]⟩, ⟨#[70, 65, 76, 83, 69]⟩, ⟨#[73, 78, 83, 69, 82, 84]⟩, ⟨#[73, 78, 84, 79]⟩, ⟨#[86, 65, 76, 85, 69, 83]⟩, ⟨#[85, 80, 68, 65, 84, 69]⟩, ⟨#[83, 69, 84]⟩, ⟨#[68, 69, 76, 69, 84, 69]⟩]
def words : List ByteArray := ⟨#[]⟩ :: kws
theorem range29 : List.range 29 = [0, 1, 2, 3, 4, 5, 6, 7, 8, 9, 10, 11, 12, 13, 14, 15, 16, 17, 18, 19, 20, 21, 22, 23, 24, 25, 26, 27, 28] := rfl
theorem rep29 (α : Type) (a : α) : List.replicate 29 a = [a, a, a, a, a, a, a, a, a, a, a, a, a, a, a, a, a, a, a, a, a, a, a, a, a, a, a, a, a] := rfl
theorem l2Words_d : Cl Tryz.prog 191 [] [] fun r _ => r = .c (.sl 29 (words.flatMap srow) none) := by
  refine cl_of_d follows_mixed false Tryz.func191 rfl (by kernel_rfl) ?_
  simp only [tt, seval, Tryz.f191, range29, rep29]
  refine ⟨_, [], rfl, endOk ?_⟩
  simp only [tt, seval, words, kws, srow]
theorem fi_some {α : Type} {l : List α} {p : α → Bool} {i : Nat} (h : i < l.length) (hp : p l[i] = true) (hn : ∀ j (hj : j < i), p (l[j]'(by omega)) = false) : l.findIdx p = i := (List.findIdx_eq h).2 ⟨hp, hn⟩
theorem fi_none {α : Type} {l : List α} {p : α → Bool} (hn : ∀ j (hj : j < l.length), p l[j] = false) : l.findIdx p = l.length := List.findIdx_eq_length_of_false fun x hx => by
  obtain ⟨j, hj, rfl⟩ := List.mem_iff_getElem.1 hx
  exact hn j hj
def ixOf (f : ByteArray) (l : List ByteArray) : Int := if l.findIdx (fun w => decide (w = f)) < l.length then l.findIdx (fun w => decide (w = f)) else -1
def key (s : ByteArray) : Int := ixOf (foldB s) kws + 1
theorem Index_d (l : List ByteArray) (f : ByteArray) : Cl Tryz.prog 220 [.c (.sl l.length (l.flatMap srow) none), vs f] [] fun r _ => r = vi (ixOf f l) := by
  refine cl_of_d follows_mixed false Tryz.func220 rfl (by kernel_rfl) ?_
  simp only [Tryz.f220, tt, seval]
  refine fun _ => ?_
  refine dLoop.intro (fun f' L p => ∃ i : Nat, f' 8 = vi i ∧ i ≤ l.length ∧ (∀ j (hj : j < l.length), j < i → l[j] ≠ f) ∧ L = [] ∧ p = none) (fun f' _ _ => (l.length - ixS (f' 8)).toNat) [] none ⟨SubO.nil _, PoSub.none _, ?_⟩ ?_
  · simp only [tt, seval]
    exact ⟨0, rfl, by omega, fun j _ h => absurd h (Nat.not_lt_zero _)⟩
  · rintro g L p ⟨i, h8, hi, hn, rfl, rfl⟩
    simp only [tt, seval] at h8
    simp only [tt, seval, h8, Int.ofNat_lt]
    refine And.intro (fun hlt => ?_) (fun hge => ?_)
    · refine ⟨by omega, by omega, _, drop_row srow_len (List.getElem?_eq_getElem hlt), srow_ne _ _, ?_⟩
      simp only [tt, seval, h8, srow_tk, srow]
      refine And.intro (fun he => ?_) (fun he => ?_)
      · refine ⟨_, _, viE ?_, end0 rfl⟩
        rw [ixOf, fi_some hlt (by simp [he]) (fun j hj => by simpa using hn j (by omega) hj), if_pos hlt]
      · rw [wrap_id (n := (i : Int) + 1) (by omega) (by omega)]
        exact ⟨[], none, SubO.nil _, PoSub.none _, ⟨i + 1, rfl, by omega, fun j hj hji => by
          by_cases e : j = i
          · subst e; exact fun h => he h.symm
          · exact hn j hj (by omega), rfl, rfl⟩, by simp only [ixS]; omega⟩
    · refine ⟨_, _, viE ?_, end0 rfl⟩
      rw [ixOf, fi_none (fun j hj => by simpa using hn j hj (by omega)), if_neg (by omega)]

end Go.Proofs.YtfdcibofiibppaaGreatDoor

set_option maxRecDepth 8000
namespace Go.Proofs.YtfdcibofiibppaaGreatDoor
open Go Go.Dv
open Go.Vc (D shrI xorI andI and255)

theorem foldB_size (s : ByteArray) : (foldB s).size = s.size := by
  show (List.toArray _).size = _
  simp
theorem kws_small : ∀ w ∈ kws, w.size ≤ 8 := by decide
theorem words_len : words.length = 29 := rfl
theorem kws_len : kws.length = 28 := rfl
theorem words_succ {j : Nat} (h : j + 1 < words.length) : words[j + 1] = kws[j]'(by simp only [words_len] at h; simp only [kws_len]; omega) := rfl
theorem key_long {s : ByteArray} (h : 8 < s.size) : key s = 0 := by
  unfold key ixOf
  rw [fi_none (l := kws) (p := fun w => decide (w = foldB s)) (fun j hj => decide_eq_false fun e => by
    have := kws_small _ (List.getElem_mem hj)
    rw [e, foldB_size] at this
    omega), if_neg (Nat.lt_irrefl _)]
  rfl
theorem KeyOf_d (s : ByteArray) (hs : s.size ≤ 1048576) : Cl Tryz.prog 181 [vs s] [] fun r _ => r = vi (key s) := by
  refine cl_of_d follows_mixed false Tryz.func181 rfl (by kernel_rfl) ?_
  simp only [Tryz.f181, tt, seval]
  refine fun _ => And.intro (fun hlt => ?_) (fun hge => ?_)
  · exact ⟨_, _, viE (key_long (by omega)).symm, end0 rfl⟩
  · skip
    refine call0 (Fold_d s hs) ?_ ?_ ?_
    · decide
    · simp only [tt, seval]
    rintro r rfl
    simp only [tt, seval]
    refine call0 (l2Words_d) ?_ ?_ ?_
    · decide
    · simp only [tt, seval]
    rintro r rfl
    simp only [tt, seval]
    refine dLoop.intro (fun f' L p => ∃ i : Nat, f' 5 = vi i ∧ 1 ≤ i ∧ i ≤ 29 ∧ (∀ j (hj : j < kws.length), j + 1 < i → kws[j] ≠ foldB s) ∧ L = [] ∧ p = none) (fun f' _ _ => (29 - ixS (f' 5)).toNat) [] none ⟨SubO.nil _, PoSub.none _, ?_⟩ ?_
    · simp only [tt, seval]
      exact ⟨1, rfl, by omega, by omega, fun j _ h => absurd h (by omega)⟩
    · rintro g L p ⟨i, h8, hi1, hi, hn, rfl, rfl⟩
      simp only [tt, seval] at h8
      simp only [tt, seval, h8]
      refine And.intro (fun hlt => ?_) (fun hge => ?_)
      · have hlt' : i < words.length := by rw [words_len]; omega
        obtain ⟨j, rfl⟩ : ∃ j, i = j + 1 := ⟨i - 1, by omega⟩
        have hj : j < kws.length := by rw [kws_len]; omega
        refine ⟨by omega, by omega, _, drop_row srow_len (List.getElem?_eq_getElem hlt'), srow_ne _ _, ?_⟩
        rw [words_succ hlt']
        simp only [tt, seval, h8, srow_tk, srow]
        refine And.intro (fun he => ?_) (fun he => ?_)
        · refine ⟨_, _, viE ?_, end0 rfl⟩
          rw [key, ixOf, fi_some hj (by simp [he]) (fun j' hj' => by simpa using hn j' (by omega) (by omega)), if_pos hj]
          omega
        · rw [wrap_id (n := ((j + 1 : Nat) : Int) + 1) (by omega) (by omega)]
          exact ⟨[], none, SubO.nil _, PoSub.none _, ⟨j + 2, rfl, by omega, by omega, fun j' hj' hji => by
            by_cases e : j' = j
            · subst e; exact he
            · exact hn j' hj' (by omega), rfl, rfl⟩, by simp only [ixS]; omega⟩
      · refine ⟨_, _, viE ?_, end0 rfl⟩
        rw [key, ixOf, fi_none (fun j hj => by simpa using hn j hj (by rw [kws_len] at hj; omega)), if_neg (by omega)]
        rfl

end Go.Proofs.YtfdcibofiibppaaGreatDoor

namespace Go.Proofs.YtfdcibofiibppaaGreatDoor
open Go Go.Shelf Go.Proofs
def Tryz.lays146_ren : Go.Shelf.Ren := ⟨fun | 146 => 136 | 221 => 199 | 268 => 217 | 138 => 218 | 143 => 219 | 195 => 232 | 197 => 233 | 218 => 234 | 219 => 235 | 260 => 244 | 217 => 245 | 225 => 246 | 224 => 247 | 267 => 248 | 266 => 260 | 314 => 261 | n => n, fun | 9 => 9 | 31 => 44 | 3 => 3 | 4 => 4 | 0 => 0 | 105 => 214 | 21 => 21 | 5 => 5 | 46 => 225 | 119 => 238 | 139 => 241 | 138 => 240 | 146 => 242 | 51 => 234 | n => n, fun | 1 => 0 | 3 => 2 | 4 => 3 | n => n⟩
theorem Tryz.lays146 : Go.Proofs.Lays.n146 Tryz.prog Tryz.lays146_ren := {
  mixed := by kernel_rfl
  f138 := Tryz.func218.trans (congrArg some (by kernel_rfl))
  f143 := Tryz.func219.trans (congrArg some (by kernel_rfl))
  f146 := Tryz.func136.trans (congrArg some (by kernel_rfl))
  f195 := Tryz.func232.trans (congrArg some (by kernel_rfl))
  f197 := Tryz.func233.trans (congrArg some (by kernel_rfl))
  f217 := Tryz.func245.trans (congrArg some (by kernel_rfl))
  f218 := Tryz.func234.trans (congrArg some (by kernel_rfl))
  f219 := Tryz.func235.trans (congrArg some (by kernel_rfl))
  f221 := Tryz.func199.trans (congrArg some (by kernel_rfl))
  f224 := Tryz.func247.trans (congrArg some (by kernel_rfl))
  f225 := Tryz.func246.trans (congrArg some (by kernel_rfl))
  f260 := Tryz.func244.trans (congrArg some (by kernel_rfl))
  f266 := Tryz.func260.trans (congrArg some (by kernel_rfl))
  f267 := Tryz.func248.trans (congrArg some (by kernel_rfl))
  f268 := Tryz.func217.trans (congrArg some (by kernel_rfl))
  f314 := Tryz.func261.trans (congrArg some (by kernel_rfl))
  t0 := Tryz.underlying0
  a0 := Tryz.isAgg0
  z0 := Tryz.sizeOf0
  v0 := Tryz.zeroValue0
  t3 := Tryz.underlying3
  a3 := Tryz.isAgg3
  z3 := Tryz.sizeOf3
  v3 := Tryz.zeroValue3
  t4 := Tryz.underlying4
  a4 := Tryz.isAgg4
  z4 := Tryz.sizeOf4
  v4 := Tryz.zeroValue4
  t5 := Tryz.underlying5
  a5 := Tryz.isAgg5
  z5 := Tryz.sizeOf5
  v5 := Tryz.zeroValue5
  t9 := Tryz.underlying9
  a9 := Tryz.isAgg9
  z9 := Tryz.sizeOf9
  v9 := Tryz.zeroValue9
  t21 := Tryz.underlying21
  a21 := Tryz.isAgg21
  z21 := Tryz.sizeOf21
  v21 := Tryz.zeroValue21
  t31 := Tryz.underlying44
  a31 := Tryz.isAgg44
  z31 := Tryz.sizeOf44
  v31 := Tryz.zeroValue44
  t46 := Tryz.underlying225
  a46 := Tryz.isAgg225
  z46 := Tryz.sizeOf225
  v46 := Tryz.zeroValue225
  t51 := Tryz.underlying234
  a51 := Tryz.isAgg234
  z51 := Tryz.sizeOf234
  v51 := Tryz.zeroValue234
  t105 := Tryz.underlying214
  a105 := Tryz.isAgg214
  z105 := Tryz.sizeOf214
  v105 := Tryz.zeroValue214
  t119 := Tryz.underlying238
  a119 := Tryz.isAgg238
  z119 := Tryz.sizeOf238
  t138 := Tryz.underlying240
  a138 := Tryz.isAgg240
  z138 := Tryz.sizeOf240
  v138 := Tryz.zeroValue240
  t139 := Tryz.underlying241
  a139 := Tryz.isAgg241
  z139 := Tryz.sizeOf241
  v139 := Tryz.zeroValue241
  t146 := Tryz.underlying242
  a146 := Tryz.isAgg242
  z146 := Tryz.sizeOf242
  v146 := Tryz.zeroValue242
  g1 := by kernel_rfl
  g3 := by kernel_rfl
  g4 := by kernel_rfl }
def Tryz.lays155_ren : Go.Shelf.Ren := ⟨fun | 155 => 231 | 154 => 243 | 138 => 218 | 165 => 259 | 143 => 219 | 166 => 138 | 197 => 233 | 169 => 141 | 195 => 232 | 218 => 234 | 240 => 204 | 241 => 267 | 219 => 235 | 260 => 244 | 276 => 225 | 277 => 270 | 217 => 245 | 225 => 246 | 224 => 247 | 267 => 248 | 266 => 260 | 314 => 261 | n => n, fun | 9 => 9 | 3 => 3 | 4 => 4 | 72 => 155 | 0 => 0 | 76 => 158 | 105 => 214 | 21 => 21 | 5 => 5 | 70 => 153 | 20 => 20 | 37 => 133 | 75 => 157 | 127 => 199 | 164 => 209 | 46 => 225 | 119 => 238 | 139 => 241 | 138 => 240 | 146 => 242 | 51 => 234 | 80 => 161 | n => n, fun | 1 => 0 | 3 => 2 | 4 => 3 | n => n⟩
theorem Tryz.lays155 : Go.Proofs.Lays.n155 Tryz.prog Tryz.lays155_ren := {
  mixed := by kernel_rfl
  f138 := Tryz.func218.trans (congrArg some (by kernel_rfl))
  f143 := Tryz.func219.trans (congrArg some (by kernel_rfl))
  f154 := Tryz.func243.trans (congrArg some (by kernel_rfl))
  f155 := Tryz.func231.trans (congrArg some (by kernel_rfl))
  f165 := Tryz.func259.trans (congrArg some (by kernel_rfl))
  f166 := Tryz.func138.trans (congrArg some (by kernel_rfl))
  f169 := Tryz.func141.trans (congrArg some (by kernel_rfl))
  f195 := Tryz.func232.trans (congrArg some (by kernel_rfl))
  f197 := Tryz.func233.trans (congrArg some (by kernel_rfl))
  f217 := Tryz.func245.trans (congrArg some (by kernel_rfl))
  f218 := Tryz.func234.trans (congrArg some (by kernel_rfl))
  f219 := Tryz.func235.trans (congrArg some (by kernel_rfl))
  f224 := Tryz.func247.trans (congrArg some (by kernel_rfl))
  f225 := Tryz.func246.trans (congrArg some (by kernel_rfl))
  f240 := Tryz.func204.trans (congrArg some (by kernel_rfl))
  f241 := Tryz.func267.trans (congrArg some (by kernel_rfl))
  f260 := Tryz.func244.trans (congrArg some (by kernel_rfl))
  f266 := Tryz.func260.trans (congrArg some (by kernel_rfl))
  f267 := Tryz.func248.trans (congrArg some (by kernel_rfl))
  f276 := Tryz.func225.trans (congrArg some (by kernel_rfl))
  f277 := Tryz.func270.trans (congrArg some (by kernel_rfl))
  f314 := Tryz.func261.trans (congrArg some (by kernel_rfl))
  t0 := Tryz.underlying0
  a0 := Tryz.isAgg0
  z0 := Tryz.sizeOf0
  v0 := Tryz.zeroValue0
  t3 := Tryz.underlying3
  a3 := Tryz.isAgg3
  z3 := Tryz.sizeOf3
  v3 := Tryz.zeroValue3
  t4 := Tryz.underlying4
  a4 := Tryz.isAgg4
  z4 := Tryz.sizeOf4
  v4 := Tryz.zeroValue4
  t5 := Tryz.underlying5
  a5 := Tryz.isAgg5
  z5 := Tryz.sizeOf5
  v5 := Tryz.zeroValue5
  t9 := Tryz.underlying9
  a9 := Tryz.isAgg9
  z9 := Tryz.sizeOf9
  v9 := Tryz.zeroValue9
  t20 := Tryz.underlying20
  a20 := Tryz.isAgg20
  z20 := Tryz.sizeOf20
  v20 := Tryz.zeroValue20
  t21 := Tryz.underlying21
  a21 := Tryz.isAgg21
  z21 := Tryz.sizeOf21
  v21 := Tryz.zeroValue21
  t37 := Tryz.underlying133
  a37 := Tryz.isAgg133
  z37 := Tryz.sizeOf133
  v37 := Tryz.zeroValue133
  t46 := Tryz.underlying225
  a46 := Tryz.isAgg225
  z46 := Tryz.sizeOf225
  v46 := Tryz.zeroValue225
  t51 := Tryz.underlying234
  a51 := Tryz.isAgg234
  z51 := Tryz.sizeOf234
  v51 := Tryz.zeroValue234
  t70 := Tryz.underlying153
  a70 := Tryz.isAgg153
  z70 := Tryz.sizeOf153
  v70 := Tryz.zeroValue153
  t72 := Tryz.underlying155
  a72 := Tryz.isAgg155
  z72 := Tryz.sizeOf155
  v72 := Tryz.zeroValue155
  t75 := Tryz.underlying157
  a75 := Tryz.isAgg157
  z75 := Tryz.sizeOf157
  v75 := Tryz.zeroValue157
  t76 := Tryz.underlying158
  a76 := Tryz.isAgg158
  z76 := Tryz.sizeOf158
  v76 := Tryz.zeroValue158
  t105 := Tryz.underlying214
  a105 := Tryz.isAgg214
  z105 := Tryz.sizeOf214
  v105 := Tryz.zeroValue214
  t119 := Tryz.underlying238
  a119 := Tryz.isAgg238
  z119 := Tryz.sizeOf238
  t127 := Tryz.underlying199
  a127 := Tryz.isAgg199
  z127 := Tryz.sizeOf199
  v127 := Tryz.zeroValue199
  t138 := Tryz.underlying240
  a138 := Tryz.isAgg240
  z138 := Tryz.sizeOf240
  v138 := Tryz.zeroValue240
  t139 := Tryz.underlying241
  a139 := Tryz.isAgg241
  z139 := Tryz.sizeOf241
  v139 := Tryz.zeroValue241
  t146 := Tryz.underlying242
  a146 := Tryz.isAgg242
  z146 := Tryz.sizeOf242
  v146 := Tryz.zeroValue242
  t164 := Tryz.underlying209
  a164 := Tryz.isAgg209
  z164 := Tryz.sizeOf209
  v164 := Tryz.zeroValue209
  g1 := by kernel_rfl
  g3 := by kernel_rfl
  g4 := by kernel_rfl }
theorem Tryz.Builder_Extra_155 : Builder.Extra Tryz.prog Tryz.lays155_ren := {
  sizeBuilder := by kernel_rfl
  liesBuilder := by kernel_rfl
  t5 := Tryz.underlying5
  a5 := Tryz.isAgg5
  z5 := Tryz.sizeOf5
  v5 := Tryz.zeroValue5
  infoByte := by kernel_rfl
  cellsByte := by kernel_rfl
  sizeByte := by kernel_rfl
  neB5 := by decide }
def Tryz.laysM171_ren : Go.Shelf.Ren := ⟨fun | 171 => 194 | 243 => 215 | 246 => 230 | 283 => 239 | 284 => 240 | 285 => 241 | 286 => 242 | 129 => 255 | 317 => 254 | 318 => 256 | 319 => 257 | 320 => 258 | 337 => 265 | 338 => 266 | n => n, fun | 3 => 3 | 9 => 9 | 2 => 2 | 4 => 4 | 171 => 218 | 0 => 0 | 53 => 219 | 37 => 133 | 5 => 5 | 173 => 222 | 212 => 233 | 51 => 234 | 20 => 20 | 213 => 235 | 46 => 225 | 232 => 254 | 233 => 255 | n => n, fun | 17 => 1 | 18 => 6 | 19 => 7 | n => n⟩
theorem Tryz.laysM171 : Go.Proofs.LaysM.n171 Tryz.prog Tryz.laysM171_ren := {
  mixed := by kernel_rfl
  f129 := Tryz.func255.trans (congrArg some (by kernel_rfl))
  f171 := Tryz.func194.trans (congrArg some (by kernel_rfl))
  f243 := Tryz.func215.trans (congrArg some (by kernel_rfl))
  f246 := Tryz.func230.trans (congrArg some (by kernel_rfl))
  f283 := Tryz.func239.trans (congrArg some (by kernel_rfl))
  f284 := Tryz.func240.trans (congrArg some (by kernel_rfl))
  f285 := Tryz.func241.trans (congrArg some (by kernel_rfl))
  f286 := Tryz.func242.trans (congrArg some (by kernel_rfl))
  f317 := Tryz.func254.trans (congrArg some (by kernel_rfl))
  f318 := Tryz.func256.trans (congrArg some (by kernel_rfl))
  f319 := Tryz.func257.trans (congrArg some (by kernel_rfl))
  f320 := Tryz.func258.trans (congrArg some (by kernel_rfl))
  f337 := Tryz.func265.trans (congrArg some (by kernel_rfl))
  f338 := Tryz.func266.trans (congrArg some (by kernel_rfl))
  t0 := Tryz.underlying0
  a0 := Tryz.isAgg0
  z0 := Tryz.sizeOf0
  v0 := Tryz.zeroValue0
  t2 := Tryz.underlying2
  a2 := Tryz.isAgg2
  z2 := Tryz.sizeOf2
  v2 := Tryz.zeroValue2
  t3 := Tryz.underlying3
  a3 := Tryz.isAgg3
  z3 := Tryz.sizeOf3
  v3 := Tryz.zeroValue3
  t4 := Tryz.underlying4
  a4 := Tryz.isAgg4
  z4 := Tryz.sizeOf4
  v4 := Tryz.zeroValue4
  t5 := Tryz.underlying5
  a5 := Tryz.isAgg5
  z5 := Tryz.sizeOf5
  v5 := Tryz.zeroValue5
  t9 := Tryz.underlying9
  a9 := Tryz.isAgg9
  z9 := Tryz.sizeOf9
  v9 := Tryz.zeroValue9
  t20 := Tryz.underlying20
  a20 := Tryz.isAgg20
  z20 := Tryz.sizeOf20
  v20 := Tryz.zeroValue20
  t37 := Tryz.underlying133
  a37 := Tryz.isAgg133
  z37 := Tryz.sizeOf133
  v37 := Tryz.zeroValue133
  t46 := Tryz.underlying225
  a46 := Tryz.isAgg225
  z46 := Tryz.sizeOf225
  v46 := Tryz.zeroValue225
  t51 := Tryz.underlying234
  a51 := Tryz.isAgg234
  z51 := Tryz.sizeOf234
  v51 := Tryz.zeroValue234
  t53 := Tryz.underlying219
  a53 := Tryz.isAgg219
  z53 := Tryz.sizeOf219
  v53 := Tryz.zeroValue219
  t171 := Tryz.underlying218
  a171 := Tryz.isAgg218
  z171 := Tryz.sizeOf218
  v171 := Tryz.zeroValue218
  t173 := Tryz.underlying222
  a173 := Tryz.isAgg222
  z173 := Tryz.sizeOf222
  v173 := Tryz.zeroValue222
  t212 := Tryz.underlying233
  a212 := Tryz.isAgg233
  z212 := Tryz.sizeOf233
  v212 := Tryz.zeroValue233
  t213 := Tryz.underlying235
  a213 := Tryz.isAgg235
  z213 := Tryz.sizeOf235
  t232 := Tryz.underlying254
  a232 := Tryz.isAgg254
  z232 := Tryz.sizeOf254
  v232 := Tryz.zeroValue254
  t233 := Tryz.underlying255
  a233 := Tryz.isAgg255
  z233 := Tryz.sizeOf255
  v233 := Tryz.zeroValue255
  g17 := by kernel_rfl
  g18 := by kernel_rfl
  g19 := by kernel_rfl
  i0 := by kernel_rfl
  i2 := by kernel_rfl
  i3 := by kernel_rfl
  i4 := by kernel_rfl
  i5 := by kernel_rfl
  i9 := by kernel_rfl
  i20 := by kernel_rfl
  i37 := by kernel_rfl
  i46 := by kernel_rfl
  i51 := by kernel_rfl
  i53 := by kernel_rfl
  i171 := by kernel_rfl
  i173 := by kernel_rfl
  i212 := by kernel_rfl
  i232 := by kernel_rfl
  i233 := by kernel_rfl
  m17 := by kernel_rfl
  m18 := by kernel_rfl
  m19 := by kernel_rfl }
def Tryz.lays169_ren : Go.Shelf.Ren := ⟨fun | 169 => 141 | n => n, fun | 70 => 153 | 9 => 9 | 0 => 0 | 72 => 155 | 37 => 133 | 127 => 199 | 3 => 3 | 5 => 5 | n => n, fun | n => n⟩
theorem Tryz.lays169 : Go.Proofs.Lays.n169 Tryz.prog Tryz.lays169_ren := {
  mixed := by kernel_rfl
  f169 := Tryz.func141.trans (congrArg some (by kernel_rfl))
  t0 := Tryz.underlying0
  a0 := Tryz.isAgg0
  z0 := Tryz.sizeOf0
  v0 := Tryz.zeroValue0
  t3 := Tryz.underlying3
  a3 := Tryz.isAgg3
  z3 := Tryz.sizeOf3
  v3 := Tryz.zeroValue3
  t9 := Tryz.underlying9
  a9 := Tryz.isAgg9
  z9 := Tryz.sizeOf9
  v9 := Tryz.zeroValue9
  t37 := Tryz.underlying133
  a37 := Tryz.isAgg133
  z37 := Tryz.sizeOf133
  v37 := Tryz.zeroValue133
  t70 := Tryz.underlying153
  a70 := Tryz.isAgg153
  z70 := Tryz.sizeOf153
  v70 := Tryz.zeroValue153
  t72 := Tryz.underlying155
  a72 := Tryz.isAgg155
  z72 := Tryz.sizeOf155
  v72 := Tryz.zeroValue155
  t127 := Tryz.underlying199
  a127 := Tryz.isAgg199
  z127 := Tryz.sizeOf199
  v127 := Tryz.zeroValue199 }
theorem Tryz.Builder_Extra_169 : Builder.Extra Tryz.prog Tryz.lays169_ren := {
  sizeBuilder := by kernel_rfl
  liesBuilder := by kernel_rfl
  t5 := Tryz.underlying5
  a5 := Tryz.isAgg5
  z5 := Tryz.sizeOf5
  v5 := Tryz.zeroValue5
  infoByte := by kernel_rfl
  cellsByte := by kernel_rfl
  sizeByte := by kernel_rfl
  neB5 := by decide }
def Tryz.laysC172_ren : Go.Shelf.Ren := ⟨fun | 172 => 222 | 244 => 236 | 245 => 237 | 247 => 249 | 279 => 250 | 280 => 251 | 281 => 252 | 282 => 253 | 287 => 262 | 316 => 263 | 171 => 194 | 205 => 264 | 321 => 268 | 322 => 269 | 243 => 215 | 246 => 230 | 283 => 239 | 284 => 240 | 285 => 241 | 286 => 242 | 129 => 255 | 317 => 254 | 318 => 256 | 319 => 257 | 320 => 258 | 337 => 265 | 338 => 266 | n => n, fun | 9 => 9 | 3 => 3 | 75 => 157 | 76 => 158 | 4 => 4 | 5 => 5 | 167 => 226 | 37 => 133 | 0 => 0 | 85 => 227 | 2 => 2 | 168 => 229 | 53 => 219 | 175 => 244 | 46 => 225 | 210 => 247 | 127 => 199 | 145 => 253 | 143 => 251 | 21 => 21 | 171 => 218 | 173 => 222 | 212 => 233 | 51 => 234 | 20 => 20 | 213 => 235 | 232 => 254 | 233 => 255 | 80 => 161 | n => n, fun | 15 => 4 | 16 => 5 | 17 => 1 | 18 => 6 | 19 => 7 | n => n⟩
theorem Tryz.laysC172 : Go.Proofs.LaysC.n172 Tryz.prog Tryz.laysC172_ren := {
  mixed := by kernel_rfl
  f129 := Tryz.func255.trans (congrArg some (by kernel_rfl))
  f171 := Tryz.func194.trans (congrArg some (by kernel_rfl))
  f172 := Tryz.func222.trans (congrArg some (by kernel_rfl))
  f205 := Tryz.func264.trans (congrArg some (by kernel_rfl))
  f243 := Tryz.func215.trans (congrArg some (by kernel_rfl))
  f244 := Tryz.func236.trans (congrArg some (by kernel_rfl))
  f245 := Tryz.func237.trans (congrArg some (by kernel_rfl))
  f246 := Tryz.func230.trans (congrArg some (by kernel_rfl))
  f247 := Tryz.func249.trans (congrArg some (by kernel_rfl))
  f279 := Tryz.func250.trans (congrArg some (by kernel_rfl))
  f280 := Tryz.func251.trans (congrArg some (by kernel_rfl))
  f281 := Tryz.func252.trans (congrArg some (by kernel_rfl))
  f282 := Tryz.func253.trans (congrArg some (by kernel_rfl))
  f283 := Tryz.func239.trans (congrArg some (by kernel_rfl))
  f284 := Tryz.func240.trans (congrArg some (by kernel_rfl))
  f285 := Tryz.func241.trans (congrArg some (by kernel_rfl))
  f286 := Tryz.func242.trans (congrArg some (by kernel_rfl))
  f287 := Tryz.func262.trans (congrArg some (by kernel_rfl))
  f316 := Tryz.func263.trans (congrArg some (by kernel_rfl))
  f317 := Tryz.func254.trans (congrArg some (by kernel_rfl))
  f318 := Tryz.func256.trans (congrArg some (by kernel_rfl))
  f319 := Tryz.func257.trans (congrArg some (by kernel_rfl))
  f320 := Tryz.func258.trans (congrArg some (by kernel_rfl))
  f321 := Tryz.func268.trans (congrArg some (by kernel_rfl))
  f322 := Tryz.func269.trans (congrArg some (by kernel_rfl))
  f337 := Tryz.func265.trans (congrArg some (by kernel_rfl))
  f338 := Tryz.func266.trans (congrArg some (by kernel_rfl))
  t0 := Tryz.underlying0
  a0 := Tryz.isAgg0
  z0 := Tryz.sizeOf0
  v0 := Tryz.zeroValue0
  t2 := Tryz.underlying2
  a2 := Tryz.isAgg2
  z2 := Tryz.sizeOf2
  v2 := Tryz.zeroValue2
  t3 := Tryz.underlying3
  a3 := Tryz.isAgg3
  z3 := Tryz.sizeOf3
  v3 := Tryz.zeroValue3
  t4 := Tryz.underlying4
  a4 := Tryz.isAgg4
  z4 := Tryz.sizeOf4
  v4 := Tryz.zeroValue4
  t5 := Tryz.underlying5
  a5 := Tryz.isAgg5
  z5 := Tryz.sizeOf5
  v5 := Tryz.zeroValue5
  t9 := Tryz.underlying9
  a9 := Tryz.isAgg9
  z9 := Tryz.sizeOf9
  v9 := Tryz.zeroValue9
  t20 := Tryz.underlying20
  a20 := Tryz.isAgg20
  z20 := Tryz.sizeOf20
  v20 := Tryz.zeroValue20
  t21 := Tryz.underlying21
  a21 := Tryz.isAgg21
  z21 := Tryz.sizeOf21
  v21 := Tryz.zeroValue21
  t37 := Tryz.underlying133
  a37 := Tryz.isAgg133
  z37 := Tryz.sizeOf133
  v37 := Tryz.zeroValue133
  t46 := Tryz.underlying225
  a46 := Tryz.isAgg225
  z46 := Tryz.sizeOf225
  v46 := Tryz.zeroValue225
  t51 := Tryz.underlying234
  a51 := Tryz.isAgg234
  z51 := Tryz.sizeOf234
  v51 := Tryz.zeroValue234
  t53 := Tryz.underlying219
  a53 := Tryz.isAgg219
  z53 := Tryz.sizeOf219
  v53 := Tryz.zeroValue219
  t75 := Tryz.underlying157
  a75 := Tryz.isAgg157
  z75 := Tryz.sizeOf157
  v75 := Tryz.zeroValue157
  t76 := Tryz.underlying158
  a76 := Tryz.isAgg158
  z76 := Tryz.sizeOf158
  v76 := Tryz.zeroValue158
  t85 := Tryz.underlying227
  a85 := Tryz.isAgg227
  z85 := Tryz.sizeOf227
  v85 := Tryz.zeroValue227
  t127 := Tryz.underlying199
  a127 := Tryz.isAgg199
  z127 := Tryz.sizeOf199
  v127 := Tryz.zeroValue199
  t143 := Tryz.underlying251
  a143 := Tryz.isAgg251
  z143 := Tryz.sizeOf251
  v143 := Tryz.zeroValue251
  t145 := Tryz.underlying253
  a145 := Tryz.isAgg253
  z145 := Tryz.sizeOf253
  v145 := Tryz.zeroValue253
  t167 := Tryz.underlying226
  a167 := Tryz.isAgg226
  z167 := Tryz.sizeOf226
  v167 := Tryz.zeroValue226
  t168 := Tryz.underlying229
  a168 := Tryz.isAgg229
  z168 := Tryz.sizeOf229
  v168 := Tryz.zeroValue229
  t171 := Tryz.underlying218
  a171 := Tryz.isAgg218
  z171 := Tryz.sizeOf218
  v171 := Tryz.zeroValue218
  t173 := Tryz.underlying222
  a173 := Tryz.isAgg222
  z173 := Tryz.sizeOf222
  v173 := Tryz.zeroValue222
  t175 := Tryz.underlying244
  a175 := Tryz.isAgg244
  z175 := Tryz.sizeOf244
  v175 := Tryz.zeroValue244
  t210 := Tryz.underlying247
  a210 := Tryz.isAgg247
  z210 := Tryz.sizeOf247
  v210 := Tryz.zeroValue247
  t212 := Tryz.underlying233
  a212 := Tryz.isAgg233
  z212 := Tryz.sizeOf233
  v212 := Tryz.zeroValue233
  t213 := Tryz.underlying235
  a213 := Tryz.isAgg235
  z213 := Tryz.sizeOf235
  t232 := Tryz.underlying254
  a232 := Tryz.isAgg254
  z232 := Tryz.sizeOf254
  v232 := Tryz.zeroValue254
  t233 := Tryz.underlying255
  a233 := Tryz.isAgg255
  z233 := Tryz.sizeOf255
  v233 := Tryz.zeroValue255
  g15 := by kernel_rfl
  g16 := by kernel_rfl
  g17 := by kernel_rfl
  g18 := by kernel_rfl
  g19 := by kernel_rfl
  t80 := Tryz.underlying161
  a80 := Tryz.isAgg161
  z80 := Tryz.sizeOf161
  v80 := Tryz.zeroValue161
  i0 := by kernel_rfl
  i2 := by kernel_rfl
  i3 := by kernel_rfl
  i4 := by kernel_rfl
  i5 := by kernel_rfl
  i9 := by kernel_rfl
  i20 := by kernel_rfl
  i21 := by kernel_rfl
  i37 := by kernel_rfl
  i46 := by kernel_rfl
  i51 := by kernel_rfl
  i53 := by kernel_rfl
  i75 := by kernel_rfl
  i76 := by kernel_rfl
  i80 := by kernel_rfl
  i85 := by kernel_rfl
  i127 := by kernel_rfl
  i143 := by kernel_rfl
  i145 := by kernel_rfl
  i167 := by kernel_rfl
  i168 := by kernel_rfl
  i171 := by kernel_rfl
  i173 := by kernel_rfl
  i175 := by kernel_rfl
  i210 := by kernel_rfl
  i212 := by kernel_rfl
  i232 := by kernel_rfl
  i233 := by kernel_rfl
  m15 := by kernel_rfl
  m16 := by kernel_rfl
  m17 := by kernel_rfl
  m18 := by kernel_rfl
  m19 := by kernel_rfl
  c0 := by kernel_rfl
  c2 := by kernel_rfl
  c3 := by kernel_rfl
  c4 := by kernel_rfl
  c5 := by kernel_rfl
  c9 := by kernel_rfl
  c20 := by kernel_rfl
  c21 := by kernel_rfl
  c37 := by kernel_rfl
  c46 := by kernel_rfl
  c51 := by kernel_rfl
  c53 := by kernel_rfl
  c75 := by kernel_rfl
  c76 := by kernel_rfl
  c80 := by kernel_rfl
  c85 := by kernel_rfl
  c127 := by kernel_rfl
  c143 := by kernel_rfl
  c145 := by kernel_rfl
  c167 := by kernel_rfl
  c168 := by kernel_rfl
  c171 := by kernel_rfl
  c173 := by kernel_rfl
  c175 := by kernel_rfl
  c210 := by kernel_rfl
  c212 := by kernel_rfl
  c213 := by kernel_rfl
  c232 := by kernel_rfl
  c233 := by kernel_rfl }
end Go.Proofs.YtfdcibofiibppaaGreatDoor

set_option maxRecDepth 8000
namespace Go.Proofs.YtfdcibofiibppaaGreatDoor
open Go Go.Dv
open Go.Vc (D shrI xorI andI and255)

open Go.RowKit (Below)
theorem gl_pow {w : World} {own : Nat → Prop} (h : GlW w own) : ∃ ty lh, w.heap[1]? = some (.cells (Lib.pow10Tab.map fun z => Value.int .u64 z).toArray ty lh) := by
  obtain ⟨_, cs, ty, lh, h2, h3⟩ := h _ (List.mem_cons_self)
  exact ⟨ty, lh, by rw [← h3]; exact h2⟩
theorem gl_max {w : World} {own : Nat → Prop} (h : GlW w own) : ∃ m, w.cell? ⟨0, 0, none⟩ = some (.int .i64 m) := by
  obtain ⟨_, cs, ty, lh, h2, m, h3⟩ := h _ (List.mem_cons_of_mem _ (List.mem_cons_self))
  exact ⟨m, by simp only [World.cell?, h2]; exact h3⟩
theorem below_grow (w : World) (k : Nat) (os : Array Obj) : Below w.heap.size w (Go.Sort.grow (w.drewN k) os) :=
  ⟨rfl, rfl, rfl, by simp [Go.Sort.grow, World.drewN], fun i hi => by simp [Go.Sort.grow, World.drewN, Array.getElem?_append, hi]⟩
def itoaB (n : Int) : ByteArray := ⟨(Lib.itoa n).toArray⟩
theorem decDigits_len (u : Nat) : ∀ k, u < 10 ^ (k + 1) → (Lib.decDigits u).length ≤ k + 1 := by
  intro k
  induction k generalizing u with
  | zero => intro h; rw [Lib.decDigits, dif_pos (by simpa using h)]; simp
  | succ k ih =>
    intro h
    rw [Lib.decDigits]
    split
    · simp
    · have := ih (u / 10) (by rw [Nat.pow_succ] at h; omega)
      simp only [List.length_append, List.length_singleton]; omega
theorem itoa_len {n : Int} (h0 : -9223372036854775808 ≤ n) (h1 : n ≤ 9223372036854775807) : (Lib.itoa n).length ≤ 20 := by
  unfold Lib.itoa
  split
  · have := decDigits_len n.natAbs 18 (by omega)
    simp only [List.length_cons]; omega
  · have := decDigits_len n.toNat 18 (by omega)
    omega
theorem itoaB_size {n : Int} (h0 : -9223372036854775808 ≤ n) (h1 : n ≤ 9223372036854775807) : (itoaB n).size ≤ 20 := by
  show (List.toArray _).size ≤ 20
  simpa using itoa_len h0 h1
theorem Itoa_d (n : Int) (h0 : -9223372036854775808 ≤ n) (h1 : n ≤ 9223372036854775807) : Cl Tryz.prog 194 [vi n] [] fun r _ => r = vs (itoaB n) :=
  Cl.ofVals (by kernel_rfl) [.int .i64 n] fun w hg => by
    obtain ⟨ty, lh, hp⟩ := gl_pow hg
    refine (Any.strconv_Itoa Tryz.laysM171 n h0 h1 w ?_).mono ?_
    · unfold Lib.TabIs World.var?
      rw [show Tryz.prog.globalNamed _ = some 1 by kernel_rfl]
      simp only [Option.bind_some, hp]
    · rintro e w' ⟨rfl, k, os, rfl⟩
      have := itoaB_size h0 h1
      exact ⟨_, rfl, by show ByteArray.size _ ≤ maxLen; simp only [maxLen]; exact Nat.le_trans this (by decide), rfl, below_grow w k os⟩

end Go.Proofs.YtfdcibofiibppaaGreatDoor

set_option maxRecDepth 8000
namespace Go.Proofs.YtfdcibofiibppaaGreatDoor
open Go Go.Dv
open Go.Vc (D shrI xorI andI and255)
open Go.RowKit (Below)
open Go.Vc (CellF RowF ValsF okV)
def kwText : ByteArray := ⟨#[83, 69, 76, 69, 67, 84, 32, 68, 73, 83, 84, 73, 78, 67, 84, 32, 70, 82, 79, 77, 32, 74, 79, 73, 78, 32, 79, 78, 32, 87, 72, 69, 82, 69, 32, 79, 82, 68, 69, 82, 32, 66, 89, 32, 65, 83, 67, 32, 68, 69, 83, 67, 32, 76, 73, 77, 73, 84, 32, 65, 83, 32, 65, 78, 68, 32, 79, 82, 32, 78, 79, 84, 32, 73, 83, 32, 73, 78, 32, 66, 69, 84, 87, 69, 69, 78, 32, 69, 88, 73, 83, 84, 83, 32, 78, 85, 76, 76, 32, 84, 82, 85, 69, 32, 70, 65, 76, 83, 69, 32, 73, 78, 83, 69, 82, 84, 32, 73, 78, 84, 79, 32, 86, 65, 76, 85, 69, 83, 32, 85, 80, 68, 65, 84, 69, 32, 83, 69, 84, 32, 68, 69, 76, 69, 84, 69]⟩
theorem split_kws : Lib.splitB ⟨#[32]⟩ 0 (Lib.countB kwText ⟨#[32]⟩) kwText = kws := by decide +kernel
theorem count_kws : Lib.countB kwText ⟨#[32]⟩ = 27 := by decide +kernel
theorem strs_vals (w : World) : ∀ l : List ByteArray, (∀ s ∈ l, s.size ≤ maxLen) → ValsF w (l.flatMap srow) (l.map Value.string) []
  | [], _ => rfl
  | s :: r, h => ⟨[], [], ⟨rfl, rfl, h s (by simp)⟩, strs_vals w r fun x hx => h x (by simp [hx]), rfl⟩
theorem strs_cell (w w' : World) (ty : TypeId) (l : List ByteArray) (hl : l ≠ []) (hs : ∀ s ∈ l, s.size ≤ maxLen) (hn : l.length ≤ maxLen) (β : Nat → Option Nat) (hw : w'.heap[w.heap.size]? = some (.cells (l.map Value.string).toArray ty (0, 0))) :
    RelS Tryz.prog w' β (fun b => w.heap.size ≤ b) (.c (.sl l.length (l.flatMap srow) none)) (.slice (some ⟨w.heap.size, 0, none⟩) l.length l.length) := by
  have hrow : RowF w' w.heap.size 0 (l.flatMap srow) [] := (strs_vals w' l hs).row fun j v hj => by
    rw [cell_of_row w' w.heap.size (0 + j) _ _ _ hw]; simpa using hj
  refine ⟨[w.heap.size], ⟨some ⟨w.heap.size, 0, none⟩, l.length, rfl, Nat.le_refl _, hn, (fun e => by cases e), .inr ⟨?_, w.heap.size, 0, [], rfl, hrow, rfl⟩⟩, (fun b hb => by simp at hb; omega), (fun _ e => by cases e)⟩
  cases l with
  | nil => exact absurd rfl hl
  | cons s r => simp [srow]
theorem Split_d : Cl Tryz.prog 136 [vs kwText, vs ⟨#[32]⟩] [] fun r _ => r = .c (.sl 28 (kws.flatMap srow) none) :=
  Cl.ofNew (by kernel_rfl) [.string kwText, .string ⟨#[32]⟩] fun w hg => by
    obtain ⟨m, hm⟩ := gl_max hg
    refine (Any.strings_Split Tryz.lays146 (by kernel_rfl) kwText ⟨#[32]⟩ m w (by decide) hm (by decide)).mono ?_
    rintro e w' ⟨rfl, rfl⟩
    rw [split_kws, count_kws]
    refine ⟨_, _, rfl, rfl, by rfl, fun β => strs_cell w _ _ kws (by decide) (fun s hs => Nat.le_trans (kws_small s hs) (by decide)) (by decide) β (Go.heap_alloc_new w _), ⟨rfl, rfl, rfl, by simp, fun i hi => Go.heap_alloc_old w _ hi⟩⟩
theorem keywords_d : Cl Tryz.prog 221 [] [] fun r _ => r = .c (.sl 28 (kws.flatMap srow) none) := by
  refine cl_of_d follows_mixed false Tryz.func221 rfl (by kernel_rfl) ?_
  simp only [tt, seval, Tryz.f221]
  refine call0 Split_d ?_ ?_ ?_
  · decide
  · simp only [tt, seval]
    rfl
  rintro r rfl
  simp only [tt, seval]
  exact ⟨_, _, rfl, end0 rfl⟩
theorem iKeyOf_d (s : ByteArray) (hs : s.size ≤ 1048576) : Cl Tryz.prog 200 [vs s] [] fun r _ => r = vi (key s) := by
  refine cl_of_d follows_mixed false Tryz.func200 rfl (by kernel_rfl) ?_
  simp only [Tryz.f200, tt, seval]
  refine call0 (keywords_d) ?_ ?_ ?_
  · decide
  · simp only [tt, seval]
  rintro r rfl
  simp only [tt, seval]
  refine call0 (iFold_d s hs) ?_ ?_ ?_
  · decide
  · simp only [tt, seval]
  rintro r rfl
  simp only [tt, seval]
  refine call0 (Index_d kws (foldB s)) ?_ ?_ ?_
  · decide
  · simp only [tt, seval, kws_len]
  rintro r rfl
  simp only [tt, seval, kws_len]
  have h1 : -1 ≤ ixOf (foldB s) kws ∧ ixOf (foldB s) kws ≤ 28 := by
    unfold ixOf
    have := kws_len
    split <;> omega
  rw [wrap_id (n := ixOf (foldB s) kws + 1) (by omega) (by omega)]
  exact ⟨_, _, rfl, end0 rfl⟩

end Go.Proofs.YtfdcibofiibppaaGreatDoor

set_option maxRecDepth 8000
namespace Go.Proofs.YtfdcibofiibppaaGreatDoor
open Go Go.Dv
open Go.Vc (D shrI xorI andI and255)

def partB (b : Int) : Bool := letB b || decide (48 ≤ b ∧ b ≤ 57)
def plainN (s : ByteArray) : Bool := decide (1 ≤ s.size ∧ s.size ≤ 20) && (!decide (48 ≤ ((s.data.toList.headD 0).toNat : Int) ∧ ((s.data.toList.headD 0).toNat : Int) ≤ 57) && (decide (key s = 0) && s.data.toList.all fun b => partB b.toNat))
theorem pu_at {n : Nat} {d : Option Nat} {K : K0} {f : Rg} {L : Ob} {p : Po} {k : IntKind} {s : ByteArray} {i : Nat} {l : List UInt8} (hl : l = s.data.toList) (hi : i < l.length) :
    dPure Tryz.prog n d (Instr.index 9 (.string s) (.int k (i : Int))) K f L p = K (put n f d (.c (.v (.int .u8 (l[i].toNat : Int))))) L p := by
  subst hl
  have hi' : i < s.size := by rw [← size_toList]; exact hi
  rw [pu_index (by kernel_rfl) (by omega) (by omega)]
  congr 6
theorem pu_at0 {n : Nat} {d : Option Nat} {K : K0} {f : Rg} {L : Ob} {p : Po} {k : IntKind} {s : ByteArray} {l : List UInt8} (hl : l = s.data.toList) (hi : 0 < l.length) :
    dPure Tryz.prog n d (Instr.index 9 (.string s) (.int k 0)) K f L p = K (put n f d (.c (.v (.int .u8 (l[0].toNat : Int))))) L p := pu_at (i := 0) hl hi
theorem key_ge (s : ByteArray) : 0 ≤ key s := by unfold key ixOf; split <;> omega
theorem PlainName_d (s : ByteArray) (hs : s.size ≤ 1048576) : Cl Tryz.prog 213 [vs s] [] fun r _ => r = vb (plainN s) := by
  obtain ⟨l, hl⟩ : ∃ l, l = s.data.toList := ⟨_, rfl⟩
  have hll : l.length = s.size := by rw [hl]; exact size_toList s
  refine cl_of_d follows_mixed false Tryz.func213 rfl (by kernel_rfl) ?_
  simp only [Tryz.f213, tt, seval]
  refine call0 (NameOk_d s) ?_ ?_ ?_
  · decide
  · simp only [tt, seval]
  rintro r rfl
  simp only [tt, seval]
  cases hN : decide (1 ≤ s.size ∧ s.size ≤ 20) with
  | false =>
    simp only [tt, seval, hN]
    exact ⟨_, _, vbE (by rw [plainN, hN]; rfl), end0 rfl⟩
  | true =>
    have hN' := of_decide_eq_true hN
    have hp : (0 : Int) < (s.size : Int) := by omega
    have hlp : 0 < l.length := by omega
    simp only [tt, seval, hN, hp]
    rw [pu_at0 hl (by omega)]
    simp only [tt, seval]
    refine call0 (l2Figure_d l[0].toNat) ?_ ?_ ?_
    · decide
    · simp only [tt, seval]
    rintro r rfl
    simp only [tt, seval]
    have hh : s.data.toList.headD 0 = l[0] := by rw [← hl]; cases l with | nil => exact absurd hlp (Nat.lt_irrefl _) | cons x r => rfl
    cases hF : decide ((48 : Int) ≤ (l[0].toNat : Int) ∧ (l[0].toNat : Int) ≤ 57) with
    | true =>
      simp only [tt, seval, hF]
      exact ⟨_, _, vbE (by rw [plainN, hN, hh, hF]; rfl), end0 rfl⟩
    | false =>
      simp only [tt, seval, hF]
      refine call0 (KeyOf_d s hs) ?_ ?_ ?_
      · decide
      · simp only [tt, seval]
      rintro r rfl
      simp only [tt, seval]
      have hk := key_ge s
      refine And.intro (fun h => ?_) (fun h => ?_)
      · exact ⟨_, _, vbE (by rw [plainN, hN, hh, hF, decide_eq_false (show ¬ key s = 0 by omega)]; rfl), end0 rfl⟩
      · have hpn : plainN s = l.all fun b => partB b.toNat := by rw [plainN, hN, hh, hF, decide_eq_true (show key s = 0 by omega), ← hl]; rfl
        rw [hpn]
        refine dLoop.intro (fun f' L p => ∃ i : Nat, f' 3 = vi i ∧ i ≤ s.size ∧ (∀ j (hj : j < l.length), j < i → partB l[j].toNat = true) ∧ L = [] ∧ p = none) (fun f' _ _ => (s.size - ixS (f' 3)).toNat) [] none ⟨SubO.nil _, PoSub.none _, ?_⟩ ?_
        · simp only [tt, seval]
          exact ⟨0, rfl, by omega, fun j _ h => absurd h (Nat.not_lt_zero _)⟩
        · rintro g L p ⟨i, h3, hi, hn, rfl, rfl⟩
          simp only [tt, seval] at h3
          simp only [tt, seval, h3, Int.ofNat_lt]
          refine fun _ => And.intro (fun hlt => ?_) (fun hge => ?_)
          · have hil : i < l.length := by omega
            rw [pu_at hl hil]
            simp only [tt, seval, h3]
            refine call0 (l2Letter_d l[i].toNat) ?_ ?_ ?_
            · decide
            · simp only [tt, seval, h3]
            rintro r rfl
            simp only [tt, seval, h3]
            cases hL : letB l[i].toNat with
            | true =>
              simp only [tt, seval, h3, hL]
              rw [wrap_id (n := (i : Int) + 1) (by omega) (by omega)]
              exact ⟨[], none, SubO.nil _, PoSub.none _, ⟨i + 1, rfl, by omega, fun j hj hji => by
                by_cases e : j = i
                · subst e; rw [partB, hL]; rfl
                · exact hn j hj (by omega), rfl, rfl⟩, by simp only [ixS]; omega⟩
            | false =>
              simp only [tt, seval, h3, hL]
              rw [pu_at hl hil]
              simp only [tt, seval, h3]
              refine call0 (l2Figure_d l[i].toNat) ?_ ?_ ?_
              · decide
              · simp only [tt, seval, h3]
              rintro r rfl
              simp only [tt, seval, h3]
              refine And.intro (fun h => ?_) (fun h => ?_)
              · simp only [Bool.not_eq_true', decide_eq_false_iff_not] at h
                refine ⟨_, _, vbE ?_, end0 rfl⟩
                refine (Bool.eq_false_iff.2 fun e => ?_).symm
                have := List.all_eq_true.1 e _ (List.getElem_mem hil)
                rw [partB, hL, Bool.false_or, decide_eq_true_eq] at this
                exact h this
              · simp only [Bool.not_eq_false', decide_eq_true_eq] at h
                rw [wrap_id (n := (i : Int) + 1) (by omega) (by omega)]
                exact ⟨[], none, SubO.nil _, PoSub.none _, ⟨i + 1, rfl, by omega, fun j hj hji => by
                  by_cases e : j = i
                  · subst e; rw [partB, hL, Bool.false_or, decide_eq_true_eq]; omega
                  · exact hn j hj (by omega), rfl, rfl⟩, by simp only [ixS]; omega⟩
          · refine ⟨_, _, vbE ?_, end0 rfl⟩
            refine (List.all_eq_true.2 fun x hx => ?_).symm
            obtain ⟨j, hj, rfl⟩ := List.mem_iff_getElem.1 hx
            exact hn j hj (by omega)
theorem iPlainName_d (s : ByteArray) (hs : s.size ≤ 1048576) : Cl Tryz.prog 206 [vs s] [] fun r _ => r = vb (plainN s) := by
  obtain ⟨l, hl⟩ : ∃ l, l = s.data.toList := ⟨_, rfl⟩
  have hll : l.length = s.size := by rw [hl]; exact size_toList s
  refine cl_of_d follows_mixed false Tryz.func206 rfl (by kernel_rfl) ?_
  simp only [Tryz.f206, tt, seval]
  refine call0 (iNameOk_d s) ?_ ?_ ?_
  · decide
  · simp only [tt, seval]
  rintro r rfl
  simp only [tt, seval]
  cases hN : decide (1 ≤ s.size ∧ s.size ≤ 20) with
  | false =>
    simp only [tt, seval, hN]
    exact ⟨_, _, vbE (by rw [plainN, hN]; rfl), end0 rfl⟩
  | true =>
    have hN' := of_decide_eq_true hN
    have hp : (0 : Int) < (s.size : Int) := by omega
    have hlp : 0 < l.length := by omega
    simp only [tt, seval, hN, hp]
    rw [pu_at0 hl (by omega)]
    simp only [tt, seval]
    refine call0 (isDigit_d l[0].toNat) ?_ ?_ ?_
    · decide
    · simp only [tt, seval]
    rintro r rfl
    simp only [tt, seval]
    have hh : s.data.toList.headD 0 = l[0] := by rw [← hl]; cases l with | nil => exact absurd hlp (Nat.lt_irrefl _) | cons x r => rfl
    have hsp : 0 < s.size := by omega
    cases hF : decide ((48 : Int) ≤ (l[0].toNat : Int) ∧ (l[0].toNat : Int) ≤ 57) with
    | true =>
      simp only [tt, seval, hF]
      exact ⟨_, _, vbE (by rw [plainN, hN, hh, hF]; rfl), end0 rfl⟩
    | false =>
      simp only [tt, seval, hF]
      refine call0 (iKeyOf_d s hs) ?_ ?_ ?_
      · decide
      · simp only [tt, seval]
      rintro r rfl
      simp only [tt, seval]
      have hk := key_ge s
      refine And.intro (fun h => ?_) (fun h => ?_)
      · exact ⟨_, _, vbE (by rw [plainN, hN, hh, hF, decide_eq_false (show ¬ key s = 0 from by simpa using h)]; rfl), end0 rfl⟩
      · have hpn : plainN s = l.all fun b => partB b.toNat := by rw [plainN, hN, hh, hF, decide_eq_true (show key s = 0 from by simpa using h), ← hl]; rfl
        rw [hpn]
        refine fun _ => ?_
        refine dLoop.intro (fun f' L p => ∃ i : Nat, f' 19 = vi i ∧ i ≤ s.size ∧ (∀ j (hj : j < l.length), j < i → partB l[j].toNat = true) ∧ L = [] ∧ p = none) (fun f' _ _ => (s.size - ixS (f' 19)).toNat) [] none ⟨SubO.nil _, PoSub.none _, ?_⟩ ?_
        · simp only [tt, seval]
          exact ⟨0, rfl, by omega, fun j _ h => absurd h (Nat.not_lt_zero _)⟩
        · rintro g L p ⟨i, h3, hi, hn, rfl, rfl⟩
          simp only [tt, seval] at h3
          simp only [tt, seval, h3, Int.ofNat_lt]
          refine And.intro (fun hlt => ?_) (fun hge => ?_)
          · have hil : i < l.length := by omega
            rw [pu_at hl hil]
            simp only [tt, seval, h3]
            refine call0 (isPart_d l[i].toNat) ?_ ?_ ?_
            · decide
            · simp only [tt, seval, h3]
            rintro r rfl
            simp only [tt, seval, h3]
            refine And.intro (fun h => ?_) (fun h => ?_)
            · refine ⟨_, _, vbE ?_, end0 rfl⟩
              refine (Bool.eq_false_iff.2 fun e => ?_).symm
              have := List.all_eq_true.1 e _ (List.getElem_mem hil)
              rw [partB] at this
              rw [this] at h; cases h
            · rw [wrap_id (n := (i : Int) + 1) (by omega) (by omega)]
              exact ⟨[], none, SubO.nil _, PoSub.none _, ⟨i + 1, rfl, by omega, fun j hj hji => by
                by_cases e : j = i
                · subst e; rw [partB]; simpa only [Bool.not_eq_false'] using h
                · exact hn j hj (by omega), rfl, rfl⟩, by simp only [ixS]; omega⟩
          · refine ⟨_, _, vbE ?_, end0 rfl⟩
            refine (List.all_eq_true.2 fun x hx => ?_).symm
            obtain ⟨j, hj, rfl⟩ := List.mem_iff_getElem.1 hx
            exact hn j hj (by omega)

end Go.Proofs.YtfdcibofiibppaaGreatDoor

set_option maxRecDepth 8000
namespace Go.Proofs.YtfdcibofiibppaaGreatDoor
open Go Go.Dv
open Go.Vc (D shrI xorI andI and255)

def quoteL (c : UInt8) (l : List UInt8) : List UInt8 := l.flatMap fun b => if b = c then [c, c] else [b]
def quoteB (c : UInt8) (s : ByteArray) : ByteArray := ⟨(c :: (quoteL c s.data.toList ++ [c])).toArray⟩
theorem quoteL_len (c : UInt8) (l : List UInt8) : (quoteL c l).length ≤ 2 * l.length := by
  induction l with
  | nil => simp [quoteL]
  | cons b r ih =>
    unfold quoteL at *
    rw [List.flatMap_cons, List.length_append, List.length_cons]
    split <;> simp only [List.length_cons, List.length_nil] <;> omega
theorem quoteL_step {c : UInt8} {l : List UInt8} {i : Nat} (h : i < l.length) : quoteL c (l.take (i + 1)) = quoteL c (l.take i) ++ (if l[i] = c then [c, c] else [l[i]]) := by
  unfold quoteL
  rw [List.take_succ_eq_append_getElem h, List.flatMap_append, List.flatMap_cons, List.flatMap_nil, List.append_nil]
theorem bytesD_snoc (l : List UInt8) (b : UInt8) : bytesD l ++ [D.lit (.int .u8 (b.toNat : Int))] = bytesD (l ++ [b]) := by simp [bytesD]
theorem l2Quote_d (s : ByteArray) (c : UInt8) (hs : s.size ≤ 1048576) : Cl Tryz.prog 214 [vs s, vu (c.toNat : Int)] [] fun r _ => r = vs (quoteB c s) := by
  obtain ⟨l, hl⟩ : ∃ l, l = s.data.toList := ⟨_, rfl⟩
  have hll : l.length = s.size := by rw [hl]; exact size_toList s
  refine cl_of_d follows_mixed false Tryz.func214 rfl (by kernel_rfl) ?_
  simp only [Tryz.f214, tt, seval]
  refine dLoop.gh [.ren 8 29] ⟨by decide, by decide, ?_⟩
  refine dLoop0.intro (fun f L p => ∃ (i : Nat) (bs : List UInt8), f 6 = vi i ∧ f 5 = .c (.s 29 bs.length) ∧ i ≤ s.size ∧ bs = c :: quoteL c (l.take i) ∧ L = [(29, .arr 5 bs.length (bytesD bs) none)] ∧ p = none) (fun f _ _ => (s.size - ixS (f 6)).toNat) [(29, .arr 5 1 (bytesD [c]) none)] none ⟨SubO.cons rfl (SubO.nil _), PoSub.none _, ?_⟩ ?_
  · simp only [tt, seval]
    exact ⟨0, [c], rfl, rfl, by omega, rfl, rfl⟩
  · rintro g L p ⟨i, bs, h6, h5, hi, hbs, rfl, rfl⟩
    simp only [tt, seval] at h6 h5
    have hbl : bs.length ≤ 1 + 2 * i := by
      have := quoteL_len c (l.take i)
      rw [hbs, List.length_cons]
      rw [List.length_take] at this; omega
    simp only [tt, seval, h6, h5, Int.ofNat_lt]
    refine fun _ => And.intro (fun hlt => ?_) (fun hge => ?_)
    · have hil : i < l.length := by omega
      rw [pu_at hl hil]
      simp only [tt, seval, h6, h5]
      refine And.intro (fun heq => ?_) (fun hne => ?_)
      · have hc : l[i] = c := UInt8.toNat_inj.1 (by omega)
        refine ⟨by kernel_rfl, ⟨by simp only [maxLen]; omega, by omega⟩, ?_⟩
        rw [pu_at hl hil, bytesD_snoc]
        simp only [tt, seval, h6, h5]
        refine ⟨by kernel_rfl, ⟨by simp only [maxLen]; omega, by omega⟩, ?_⟩
        rw [bytesD_snoc, wrap_id (n := (i : Int) + 1) (by omega) (by omega)]
        refine ⟨[(29, .arr 5 (bs ++ [c] ++ [l[i]]).length (bytesD (bs ++ [c] ++ [l[i]])) none)], none, SubO.cons (by simp [Go.Dv.look, Nat.add_assoc]) (SubO.nil _), PoSub.none _, ⟨i + 1, bs ++ [c] ++ [l[i]], rfl, by simp, by omega, ?_, rfl, rfl⟩, by simp only [ixS]; omega⟩
        rw [quoteL_step hil, if_pos hc, hbs, hc]; simp
      · have hc : ¬ l[i] = c := fun e => hne (by rw [e])
        rw [pu_at hl hil]
        simp only [tt, seval, h6, h5]
        refine ⟨by kernel_rfl, ⟨by simp only [maxLen]; omega, by omega⟩, ?_⟩
        rw [bytesD_snoc, wrap_id (n := (i : Int) + 1) (by omega) (by omega)]
        refine ⟨[(29, .arr 5 (bs ++ [l[i]]).length (bytesD (bs ++ [l[i]])) none)], none, SubO.cons (by simp [Go.Dv.look, Nat.add_assoc]) (SubO.nil _), PoSub.none _, ⟨i + 1, bs ++ [l[i]], rfl, by simp, by omega, ?_, rfl, rfl⟩, by simp only [ixS]; omega⟩
        rw [quoteL_step hil, if_neg hc, hbs]; simp
    · have : i = s.size := by omega
      subst this
      refine ⟨by kernel_rfl, ⟨by simp only [maxLen]; omega, by omega⟩, ?_⟩
      rw [bytesD_snoc]
      refine ⟨by kernel_rfl, by simp only [maxLen]; omega, bs ++ [c], by simp, rfl, ?_⟩
      simp only [tt, seval]
      refine ⟨_, _, vsE ?_, end0 rfl⟩
      rw [hbs, ← hll, List.take_length, hl]; rfl

end Go.Proofs.YtfdcibofiibppaaGreatDoor

set_option maxRecDepth 8000
namespace Go.Proofs.YtfdcibofiibppaaGreatDoor
open Go Go.Dv
open Go.Vc (D shrI xorI andI and255)
open Go.RowKit (Below)
open Go.Vc (okV)
theorem index_none1 (c : UInt8) : ∀ l : List UInt8, c ∉ l → Lib.index l [c] = -1
  | [], _ => rfl
  | b :: l, h => by
    simp only [List.mem_cons, not_or] at h
    have ih := index_none1 c l h.2
    have hb : ([c] : List UInt8).isPrefixOf (b :: l) = false := by simp [List.isPrefixOf, h.1]
    simp [Lib.index, hb, ih]
theorem index_at1 (c : UInt8) : ∀ a r : List UInt8, c ∉ a → Lib.index (a ++ c :: r) [c] = a.length
  | [], r, _ => by simp [Lib.index, List.isPrefixOf]
  | b :: a, r, h => by
    simp only [List.mem_cons, not_or] at h
    have ih := index_at1 c a r h.2
    have hb : ([c] : List UInt8).isPrefixOf (b :: (a ++ c :: r)) = false := by simp [List.isPrefixOf, h.1]
    have hne : ¬ ((a.length : Int) = -1) := by omega
    simp [Lib.index, hb, ih, hne]
theorem quoteL_none {c : UInt8} : ∀ {l : List UInt8}, c ∉ l → quoteL c l = l
  | [], _ => rfl
  | b :: l, h => by
    simp only [List.mem_cons, not_or] at h
    have ih := quoteL_none h.2
    unfold quoteL at *
    rw [List.flatMap_cons, ih, if_neg (fun e => h.1 e.symm)]; rfl
theorem replaceK_one (c : UInt8) : ∀ (n : Nat) (l : List UInt8), l.length ≤ n → Lib.replaceK [c] [c, c] (Lib.count l [c]) l = quoteL c l := by
  intro n
  induction n with
  | zero =>
    intro l h
    have : l = [] := List.eq_nil_of_length_eq_zero (by omega)
    subst this
    rw [Lib.count_miss (index_none1 c [] (by simp))]; rfl
  | succ n ih =>
    intro l h
    by_cases hc : c ∈ l
    · obtain ⟨a, r, rfl, ha⟩ := List.eq_append_cons_of_mem hc
      have hi := index_at1 c a r ha
      have hdrop : (a ++ c :: r).drop (a.length + [c].length) = r := by
        rw [show a ++ c :: r = (a ++ [c]) ++ r by simp, List.drop_left' (by simp)]
      rw [Lib.count_hit (by simp) hi, Nat.add_comm, Lib.replaceK_hit _ _ _ _ _ hi, hdrop, ih r (by simp at h; omega), List.take_left' rfl]
      unfold quoteL
      rw [List.flatMap_append, List.flatMap_cons, if_pos rfl]
      have := quoteL_none ha
      unfold quoteL at this
      rw [this]; simp
    · rw [Lib.count_miss (index_none1 c l hc), quoteL_none hc]; rfl
theorem replaceAll_one (c : UInt8) (l : List UInt8) : Lib.replaceAll l [c] [c, c] = quoteL c l := by
  have hne : ([c] == [c, c]) = false := by simp
  unfold Lib.replaceAll Lib.replace Lib.replaceNum
  rw [hne, if_neg (by simp), if_pos (by simp)]
  exact replaceK_one c l.length l (Nat.le_refl _)
theorem data_append (a b : ByteArray) : (a ++ b).data.toList = a.data.toList ++ b.data.toList := by rw [ByteArray.data_append, Array.toList_append]
def one (c : UInt8) : ByteArray := ⟨#[c]⟩
theorem two_list (c : UInt8) : (one c ++ one c).data.toList = [c, c] := by rw [data_append]; rfl
theorem ReplaceAll_d (s : ByteArray) (c : UInt8) (hs : s.size ≤ 1048576) : Cl Tryz.prog 231 [vs s, vs (one c), vs (one c ++ one c)] [] fun r _ => r = vs ⟨(quoteL c s.data.toList).toArray⟩ :=
  Cl.ofVals (by kernel_rfl) [.string s, .string (one c), .string (one c ++ one c)] fun w hg => by
    obtain ⟨m, hm⟩ := gl_max hg
    have h2 : (one c ++ one c).size = 2 := by rw [← size_toList, two_list]; rfl
    have hcnt : Lib.countB s (one c) ≤ s.size := Lib.countB_le (one c) (Nat.le_refl 1) s.size s (Nat.le_refl _)
    refine (Any.strings_ReplaceAll Tryz.lays155 Tryz.Builder_Extra_155 s (one c) (one c ++ one c) m w (by omega) hm (Nat.le_refl 1) (by rw [h2]; omega)).mono ?_
    rintro e w' ⟨rfl, hb⟩
    rw [two_list, show (one c).data.toList = [c] from rfl, replaceAll_one]
    refine ⟨_, rfl, ?_, rfl, hb⟩
    show (List.toArray _).size ≤ maxLen
    have := quoteL_len c s.data.toList
    rw [size_toList] at this
    simp only [List.size_toArray, maxLen]; omega
theorem ba_ext {a b : ByteArray} (h : a.data.toList = b.data.toList) : a = b := by
  obtain ⟨⟨x⟩⟩ := a; obtain ⟨⟨y⟩⟩ := b
  simp only at h; rw [h]
theorem size_app (a b : ByteArray) : (a ++ b).size = a.size + b.size := by rw [← size_toList, data_append, List.length_append, size_toList, size_toList]
theorem quoted_d (s : ByteArray) (c : UInt8) (hs : s.size ≤ 1048576) : Cl Tryz.prog 216 [vs s, vs (one c)] [] fun r _ => r = vs (quoteB c s) := by
  have h1 : (one c).size = 1 := rfl
  refine cl_of_d follows_mixed false Tryz.func216 rfl (by kernel_rfl) ?_
  simp only [Tryz.f216, tt, seval]
  rw [pu_sadd (by omega)]
  refine call0 (ReplaceAll_d s c hs) ?_ ?_ ?_
  · decide
  · simp only [tt, seval]
  rintro r rfl
  simp only [tt, seval]
  have hq : (⟨(quoteL c s.data.toList).toArray⟩ : ByteArray).size ≤ 2 * s.size := by
    have := quoteL_len c s.data.toList
    rw [size_toList] at this
    show (List.toArray _).size ≤ _
    simpa using this
  rw [pu_sadd (by omega)]
  simp only [tt, seval]
  rw [pu_sadd (by rw [size_app]; omega)]
  simp only [tt, seval]
  exact ⟨_, _, vsE (ba_ext (by rw [data_append, data_append]; simp [one, quoteB])), end0 rfl⟩
theorem t39 : (((39 : UInt8).toNat : Nat) : Int) = 39 := rfl
theorem t34 : (((34 : UInt8).toNat : Nat) : Int) = 34 := rfl
def nameT (s : ByteArray) : ByteArray := if 1 ≤ s.size ∧ s.size ≤ 20 then (if plainN s = true then s else quoteB 34 s) else ⟨#[]⟩
theorem QuoteText_d (s : ByteArray) (hs : s.size ≤ 1048576) : Cl Tryz.prog 188 [vs s] [] fun r _ => r = vs (quoteB 39 s) := by
  refine cl_of_d follows_mixed false Tryz.func188 rfl (by kernel_rfl) ?_
  simp only [Tryz.f188, tt, seval]
  refine call0 (l2Quote_d s 39 hs) ?_ ?_ ?_
  · decide
  · simp only [tt, seval, t39]
  rintro r rfl
  simp only [tt, seval, t39]
  exact ⟨_, _, rfl, end0 rfl⟩
theorem iQuoteText_d (s : ByteArray) (hs : s.size ≤ 1048576) : Cl Tryz.prog 196 [vs s] [] fun r _ => r = vs (quoteB 39 s) := by
  refine cl_of_d follows_mixed false Tryz.func196 rfl (by kernel_rfl) ?_
  simp only [Tryz.f196, tt, seval]
  refine call0 (quoted_d s 39 hs) ?_ ?_ ?_
  · decide
  · simp only [tt, seval, one]
  rintro r rfl
  simp only [tt, seval, one]
  exact ⟨_, _, rfl, end0 rfl⟩
theorem NameText_d (s : ByteArray) (hs : s.size ≤ 1048576) : Cl Tryz.prog 187 [vs s] [] fun r _ => r = vs (nameT s) := by
  refine cl_of_d follows_mixed false Tryz.func187 rfl (by kernel_rfl) ?_
  simp only [Tryz.f187, tt, seval]
  refine call0 (NameOk_d s) ?_ ?_ ?_
  · decide
  · simp only [tt, seval]
  rintro r rfl
  simp only [tt, seval]
  refine And.intro (fun h => ?_) (fun h => ?_)
  · exact ⟨_, _, vsE (by rw [nameT, if_neg (by simpa only [Bool.not_eq_true', decide_eq_false_iff_not] using h)]), end0 rfl⟩
  · skip
    refine call0 (PlainName_d s hs) ?_ ?_ ?_
    · decide
    · simp only [tt, seval]
    rintro r rfl
    simp only [tt, seval]
    have h' : 1 ≤ s.size ∧ s.size ≤ 20 := by simpa only [Bool.not_eq_false', decide_eq_true_eq] using h
    refine And.intro (fun hp => ?_) (fun hp => ?_)
    · exact ⟨_, _, vsE (by rw [nameT, if_pos h', if_pos hp]), end0 rfl⟩
    · skip
      refine call0 (l2Quote_d s 34 hs) ?_ ?_ ?_
      · decide
      · simp only [tt, seval, t34]
      rintro r rfl
      simp only [tt, seval, t34]
      exact ⟨_, _, vsE (by rw [nameT, if_pos h', if_neg (by rw [hp]; simp)]), end0 rfl⟩
theorem iNameText_d (s : ByteArray) (hs : s.size ≤ 1048576) : Cl Tryz.prog 205 [vs s] [] fun r _ => r = vs (nameT s) := by
  refine cl_of_d follows_mixed false Tryz.func205 rfl (by kernel_rfl) ?_
  simp only [Tryz.f205, tt, seval]
  refine call0 (iNameOk_d s) ?_ ?_ ?_
  · decide
  · simp only [tt, seval]
  rintro r rfl
  simp only [tt, seval]
  refine And.intro (fun h => ?_) (fun h => ?_)
  · exact ⟨_, _, vsE (by rw [nameT, if_neg (by simpa only [Bool.not_eq_true', decide_eq_false_iff_not] using h)]), end0 rfl⟩
  · skip
    refine call0 (iPlainName_d s hs) ?_ ?_ ?_
    · decide
    · simp only [tt, seval]
    rintro r rfl
    simp only [tt, seval]
    have h' : 1 ≤ s.size ∧ s.size ≤ 20 := by simpa only [Bool.not_eq_false', decide_eq_true_eq] using h
    refine And.intro (fun hp => ?_) (fun hp => ?_)
    · exact ⟨_, _, vsE (by rw [nameT, if_pos h', if_pos hp]), end0 rfl⟩
    · skip
      refine call0 (quoted_d s 34 hs) ?_ ?_ ?_
      · decide
      · simp only [tt, seval, one]
      rintro r rfl
      simp only [tt, seval, one]
      exact ⟨_, _, vsE (by rw [nameT, if_pos h', if_neg (by rw [hp]; simp)]), end0 rfl⟩

end Go.Proofs.YtfdcibofiibppaaGreatDoor

set_option maxRecDepth 8000
namespace Go.Proofs.YtfdcibofiibppaaGreatDoor
open Go Go.Dv
open Go.Vc (D shrI xorI andI and255)

def valOk (v : Val) : Bool :=
  if v.kind = 0 then decide (v.num = 0) && decide (v.text = ⟨#[]⟩) else if v.kind = 1 then decide (v.text = ⟨#[]⟩)
  else if v.kind = 2 then decide (v.num = 0) && decide ((v.text.size : Int) ≤ 200) else if v.kind = 3 then decide (0 ≤ v.num ∧ v.num ≤ 1) && decide (v.text = ⟨#[]⟩) else false
theorem ValueOk_d (v : Val) : Cl Tryz.prog 212 [.ag (csOf v.row)] [] fun r _ => r = vb (valOk v) := by
  rw [Val.row]
  refine cl_of_d follows_mixed false Tryz.func212 rfl (by kernel_rfl) ?_
  simp only [Tryz.f212, tt, seval]
  refine And.intro (fun h0 => ?_) (fun h0 => ?_)
  · refine And.intro (fun h => ?_) (fun h => ?_) <;> simp only [tt, seval]
    · exact ⟨_, _, vbE (by rw [valOk, if_pos h0, h]; rfl), end0 rfl⟩
    · exact ⟨_, _, vbE (by rw [valOk, if_pos h0, h]; rfl), end0 rfl⟩
  · try simp only [tt, seval]
    refine And.intro (fun h1 => ?_) (fun h1 => ?_)
    · exact ⟨_, _, vbE (by rw [valOk, if_neg h0, if_pos h1]), end0 rfl⟩
    · try simp only [tt, seval]
      refine And.intro (fun h2 => ?_) (fun h2 => ?_)
      · refine And.intro (fun h => ?_) (fun h => ?_) <;> simp only [tt, seval]
        · exact fun _ => ⟨_, _, vbE (by rw [valOk, if_neg h0, if_neg h1, if_pos h2, h]; rfl), end0 rfl⟩
        · exact ⟨_, _, vbE (by rw [valOk, if_neg h0, if_neg h1, if_pos h2, h]; rfl), end0 rfl⟩
      · try simp only [tt, seval]
        refine And.intro (fun h3 => ?_) (fun h3 => ?_)
        · try simp only [tt, seval]
          refine call0 (l1In_d v.num 0 1) ?_ ?_ ?_
          · decide
          · simp only [tt, seval]
          rintro r rfl
          simp only [tt, seval]
          cases hn : decide ((0 : Int) ≤ v.num ∧ v.num ≤ 1) <;> simp only [tt, seval, hn]
          · exact ⟨_, _, vbE (by rw [valOk, if_neg h0, if_neg h1, if_neg h2, if_pos h3, hn]; rfl), end0 rfl⟩
          · exact ⟨_, _, vbE (by rw [valOk, if_neg h0, if_neg h1, if_neg h2, if_pos h3, hn]; rfl), end0 rfl⟩
        · exact ⟨_, _, vbE (by rw [valOk, if_neg h0, if_neg h1, if_neg h2, if_neg h3]), end0 rfl⟩
theorem iValueOk_d (v : Val) : Cl Tryz.prog 195 [.ag (csOf v.row)] [] fun r _ => r = vb (valOk v) := by
  rw [Val.row]
  refine cl_of_d follows_mixed false Tryz.func195 rfl (by kernel_rfl) ?_
  simp only [Tryz.f195, tt, seval]
  refine And.intro (fun h0 => ?_) (fun h0 => ?_)
  · refine And.intro (fun h => ?_) (fun h => ?_) <;> simp only [tt, seval]
    · exact ⟨_, _, vbE (by rw [valOk, if_pos h0, h]; rfl), end0 rfl⟩
    · exact ⟨_, _, vbE (by rw [valOk, if_pos h0, h]; rfl), end0 rfl⟩
  · try simp only [tt, seval]
    refine And.intro (fun h1 => ?_) (fun h1 => ?_)
    · exact ⟨_, _, vbE (by rw [valOk, if_neg h0, if_pos h1]), end0 rfl⟩
    · try simp only [tt, seval]
      refine And.intro (fun h2 => ?_) (fun h2 => ?_)
      · refine And.intro (fun h => ?_) (fun h => ?_) <;> simp only [tt, seval]
        · exact fun _ => ⟨_, _, vbE (by rw [valOk, if_neg h0, if_neg h1, if_pos h2, h]; rfl), end0 rfl⟩
        · exact ⟨_, _, vbE (by rw [valOk, if_neg h0, if_neg h1, if_pos h2, h]; rfl), end0 rfl⟩
      · try simp only [tt, seval]
        refine And.intro (fun h3 => ?_) (fun h3 => ?_)
        · have fin : ∀ b : Bool, decide ((0 : Int) ≤ v.num ∧ v.num ≤ 1) = b → valOk v = (b && decide (v.text = ⟨#[]⟩)) := fun b hb => by rw [valOk, if_neg h0, if_neg h1, if_neg h2, if_pos h3, hb]
          by_cases hz : v.num = 0
          · simp only [tt, seval, decide_eq_true hz]
            exact ⟨_, _, vbE (by rw [fin true (decide_eq_true (by omega))]; rfl), end0 rfl⟩
          · simp only [tt, seval, decide_eq_false hz]
            by_cases ho : v.num = 1
            · simp only [tt, seval, decide_eq_true ho]
              exact ⟨_, _, vbE (by rw [fin true (decide_eq_true (by omega))]; rfl), end0 rfl⟩
            · simp only [tt, seval, decide_eq_false ho]
              exact ⟨_, _, vbE (by rw [fin false (decide_eq_false (by omega))]; rfl), end0 rfl⟩
        · exact ⟨_, _, vbE (by rw [valOk, if_neg h0, if_neg h1, if_neg h2, if_neg h3]), end0 rfl⟩
def valT (v : Val) : ByteArray :=
  if valOk v = false then ⟨#[63]⟩ else if v.kind = 1 then itoaB v.num else if v.kind = 2 then quoteB 39 v.text else if v.kind = 3 then (if v.num = 1 then ⟨#[84, 82, 85, 69]⟩ else ⟨#[70, 65, 76, 83, 69]⟩) else ⟨#[78, 85, 76, 76]⟩
theorem iDigits_d (n : Int) (h0 : -9223372036854775808 ≤ n) (h1 : n ≤ 9223372036854775807) : Cl Tryz.prog 131 [vi n] [] fun r _ => r = vs (itoaB n) := by
  refine cl_of_d follows_mixed false Tryz.func131 rfl (by kernel_rfl) ?_
  simp only [Tryz.f131, tt, seval]
  refine call0 (Itoa_d n h0 h1) ?_ ?_ ?_
  · decide
  · simp only [tt, seval]
  rintro r rfl
  simp only [tt, seval]
  exact ⟨_, _, rfl, end0 rfl⟩

end Go.Proofs.YtfdcibofiibppaaGreatDoor

set_option maxRecDepth 8000
namespace Go.Proofs.YtfdcibofiibppaaGreatDoor
open Go Go.Dv
open Go.Vc (D shrI xorI andI and255)

def sg (b : Bool) (k : Nat) : Int := if b = true then -(k : Int) else k
theorem sg_mod (b : Bool) (k : Nat) : (sg b k).tmod 10 = sg b (k % 10) := by
  unfold sg; split
  · rw [Int.neg_tmod]; rfl
  · rfl
theorem sg_div (b : Bool) (k : Nat) : (sg b k).tdiv 10 = sg b (k / 10) := by
  unfold sg; split
  · rw [Int.neg_tdiv]; rfl
  · rfl
theorem sg_zero (b : Bool) (k : Nat) : sg b k = 0 ↔ k = 0 := by unfold sg; split <;> omega
def digC (k : Nat) : UInt8 := UInt8.ofNat (48 + k % 10)
theorem digC_val (k : Nat) : ((digC k).toNat : Int) = 48 + (k % 10 : Nat) := by
  unfold digC
  rw [UInt8.toNat_ofNat']
  omega
theorem decDigits_step {k : Nat} (h : k / 10 ≠ 0) : Lib.decDigits k = Lib.decDigits (k / 10) ++ [digC k] := by
  rw [Lib.decDigits, dif_neg (by omega)]; rfl
theorem decDigits_small {k : Nat} (h : k / 10 = 0) : Lib.decDigits k = [digC k] := by
  have : k % 10 = k := by omega
  rw [Lib.decDigits, dif_pos (by omega), digC, this]
theorem Digits_d (n : Int) (h0 : -9223372036854775808 ≤ n) (h1 : n ≤ 9223372036854775807) : Cl Tryz.prog 117 [vi n] [] fun r _ => r = vs (itoaB n) := by
  obtain ⟨b, hb⟩ : ∃ b, b = decide (n < 0) := ⟨_, rfl⟩
  refine cl_of_d follows_mixed false Tryz.func117 rfl (by kernel_rfl) ?_
  simp only [Tryz.f117, tt, seval]
  refine And.intro (fun hz => ?_) (fun hz => ?_)
  · subst hz
    exact ⟨_, _, vsE (show (⟨#[48]⟩ : ByteArray) = itoaB 0 by unfold itoaB Lib.itoa; rw [if_neg (by omega), Lib.decDigits, dif_pos (by decide)]; rfl), end0 rfl⟩
  · rw [← hb]
    refine dLoop.intro (fun f L p => ∃ (k : Nat) (o : List UInt8), f 0 = vi (sg b k) ∧ f 4 = vs ⟨o.toArray⟩ ∧ k ≤ n.natAbs ∧ Lib.decDigits n.natAbs = (if k = 0 then o else Lib.decDigits k ++ o) ∧ L = [] ∧ p = none) (fun f _ _ => (ixS (f 0)).natAbs) [] none ⟨SubO.nil _, PoSub.none _, ?_⟩ ?_
    · simp only [tt, seval]
      refine ⟨n.natAbs, [], viE ?_, rfl, Nat.le_refl _, ?_⟩
      · rw [sg, hb]; simp only [decide_eq_true_eq]; split <;> omega
      · rw [if_neg (by omega), List.append_nil]
    · rintro g L p ⟨k, o, hk, ho, hkn, hd, rfl, rfl⟩
      simp only [tt, seval] at hk ho
      have hol : o.length ≤ 20 := by
        have h2 := itoa_len h0 h1
        have h3 : (Lib.decDigits n.natAbs).length ≤ 20 := decDigits_len n.natAbs 19 (by omega)
        rw [hd] at h3
        split at h3
        · exact h3
        · rw [List.length_append] at h3; omega
      simp only [tt, seval, hk, ho, sg_mod, sg_div]
      refine And.intro (fun hne => ?_) (fun heq => ?_)
      · have hk0 : k ≠ 0 := by
          simp only [Bool.not_eq_true', decide_eq_false_iff_not, sg_zero] at hne; exact hne
        have hdv := digC_val k
        refine And.intro (fun hneg => ?_) (fun hpos => ?_)
        · have hs : sg b (k % 10) = -((k % 10 : Nat) : Int) := by
            unfold sg at hneg ⊢
            split at hneg
            · rename_i h; rw [if_pos h]
            · omega
          have hval : IntKind.u8.wrap (IntKind.i64.wrap (48 + IntKind.i64.wrap (0 - sg b (k % 10)))) = ((digC k).toNat : Int) := by
            rw [hs, wrap_id (n := 0 - -((k % 10 : Nat) : Int)) (by omega) (by omega), wrap_id (by omega) (by omega), IntWalk.u8_in _ (by omega), hdv]; omega
          refine ⟨by kernel_rfl, by decide, [digC k], rfl, by rw [hval]; rfl, ?_⟩
          simp only [tt, seval, hk, ho, sg_div]
          have hsz : (⟨[digC k].toArray⟩ : ByteArray).size + (⟨o.toArray⟩ : ByteArray).size = 1 + o.length := by show (List.toArray _).size + (List.toArray _).size = _; simp
          rw [pu_sadd (by rw [hsz]; omega)]
          simp only [tt, seval, hk, ho, sg_div]
          rw [wrap_id (n := sg b (k / 10)) (by rw [sg]; split <;> omega) (by rw [sg]; split <;> omega)]
          refine ⟨[], none, SubO.nil _, PoSub.none _, ⟨k / 10, digC k :: o, rfl, vsE (ba_ext (by rw [data_append]; simp)), by omega, ?_, rfl, rfl⟩, ?_⟩
          · rw [hd, if_neg hk0]
            split
            · rename_i h; rw [decDigits_small h]; rfl
            · rename_i h; rw [decDigits_step h]; simp
          · simp only [ixS, sg]; split <;> omega
        · have hs : sg b (k % 10) = ((k % 10 : Nat) : Int) := by
            unfold sg at hpos ⊢
            split at hpos
            · rename_i h; rw [if_pos h]; omega
            · rename_i h; rw [if_neg h]
          have hval : IntKind.u8.wrap (IntKind.i64.wrap (48 + sg b (k % 10))) = ((digC k).toNat : Int) := by
            rw [hs, wrap_id (by omega) (by omega), IntWalk.u8_in _ (by omega), hdv]
          refine ⟨by kernel_rfl, by decide, [digC k], rfl, by rw [hval]; rfl, ?_⟩
          simp only [tt, seval, hk, ho, sg_div]
          have hsz : (⟨[digC k].toArray⟩ : ByteArray).size + (⟨o.toArray⟩ : ByteArray).size = 1 + o.length := by show (List.toArray _).size + (List.toArray _).size = _; simp
          rw [pu_sadd (by rw [hsz]; omega)]
          simp only [tt, seval, hk, ho, sg_div]
          rw [wrap_id (n := sg b (k / 10)) (by rw [sg]; split <;> omega) (by rw [sg]; split <;> omega)]
          refine ⟨[], none, SubO.nil _, PoSub.none _, ⟨k / 10, digC k :: o, rfl, vsE (ba_ext (by rw [data_append]; simp)), by omega, ?_, rfl, rfl⟩, ?_⟩
          · rw [hd, if_neg hk0]
            split
            · rename_i h; rw [decDigits_small h]; rfl
            · rename_i h; rw [decDigits_step h]; simp
          · simp only [ixS, sg]; split <;> omega
      · have hk0 : k = 0 := by
          simp only [Bool.not_eq_false', decide_eq_true_eq, sg_zero] at heq; exact heq
        subst hk0
        rw [if_pos rfl] at hd
        refine And.intro (fun hb1 => ?_) (fun hb0 => ?_)
        · have hn : n < 0 := by rw [hb] at hb1; exact of_decide_eq_true hb1
          have hsz : (⟨#[45]⟩ : ByteArray).size + (⟨o.toArray⟩ : ByteArray).size = 1 + o.length := by show 1 + (List.toArray _).size = _; simp
          rw [pu_sadd (by rw [hsz]; omega)]
          simp only [tt, seval]
          exact ⟨_, _, vsE (ba_ext (by rw [data_append]; simp [itoaB, Lib.itoa, hn, hd])), end0 rfl⟩
        · have hn : ¬ n < 0 := by rw [hb] at hb0; exact of_decide_eq_false hb0
          have e : n.toNat = n.natAbs := by omega
          exact ⟨_, _, vsE (ba_ext (by simp [itoaB, Lib.itoa, hn, e, hd])), end0 rfl⟩

end Go.Proofs.YtfdcibofiibppaaGreatDoor

set_option maxRecDepth 8000
namespace Go.Proofs.YtfdcibofiibppaaGreatDoor
open Go Go.Dv
open Go.Vc (D shrI xorI andI and255)
theorem iValueText_d (v : Val) (h0 : -9223372036854775808 ≤ v.num) (h1 : v.num ≤ 9223372036854775807) (hs : v.text.size ≤ 1048576) : Cl Tryz.prog 132 [.ag (csOf v.row)] [] fun r _ => r = vs (valT v) := by
  rw [Val.row]
  refine cl_of_d follows_mixed false Tryz.func132 rfl (by kernel_rfl) ?_
  simp only [Tryz.f132, tt, seval]
  refine call0 (iValueOk_d v) ?_ ?_ ?_
  · decide
  · simp only [tt, seval, Val.row]
  rintro r rfl
  simp only [tt, seval, Val.row]
  refine And.intro (fun hk => ?_) (fun hk => ?_)
  · exact ⟨_, _, vsE (by rw [valT, if_pos (by simpa only [Bool.not_eq_true'] using hk)]), end0 rfl⟩
  · have hk' : ¬ valOk v = false := by simpa only [Bool.not_eq_false', Bool.not_eq_false] using hk
    refine And.intro (fun k1 => ?_) (fun k1 => ?_)
    · skip
      refine call0 (iDigits_d v.num h0 h1) ?_ ?_ ?_
      · decide
      · simp only [tt, seval, Val.row]
      rintro r rfl
      simp only [tt, seval, Val.row]
      exact ⟨_, _, vsE (by rw [valT, if_neg hk', if_pos k1]), end0 rfl⟩
    · try simp only [tt, seval]
      refine And.intro (fun k2 => ?_) (fun k2 => ?_)
      · skip
        refine call0 (iQuoteText_d v.text hs) ?_ ?_ ?_
        · decide
        · simp only [tt, seval, Val.row]
        rintro r rfl
        simp only [tt, seval, Val.row]
        exact ⟨_, _, vsE (by rw [valT, if_neg hk', if_neg k1, if_pos k2]), end0 rfl⟩
      · try simp only [tt, seval]
        refine And.intro (fun k3 => ?_) (fun k3 => ?_)
        · try simp only [tt, seval]
          refine And.intro (fun k4 => ?_) (fun k4 => ?_)
          · exact ⟨_, _, vsE (by rw [valT, if_neg hk', if_neg k1, if_neg k2, if_pos k3, if_pos k4]), end0 rfl⟩
          · exact ⟨_, _, vsE (by rw [valT, if_neg hk', if_neg k1, if_neg k2, if_pos k3, if_neg k4]), end0 rfl⟩
        · exact ⟨_, _, vsE (by rw [valT, if_neg hk', if_neg k1, if_neg k2, if_neg k3]), end0 rfl⟩

end Go.Proofs.YtfdcibofiibppaaGreatDoor

set_option maxRecDepth 8000
namespace Go.Proofs.YtfdcibofiibppaaGreatDoor
open Go Go.Dv
open Go.Vc (D shrI xorI andI and255)

theorem bytesD_app (a b : List UInt8) : bytesD a ++ bytesD b = bytesD (a ++ b) := by simp [bytesD]
end Go.Proofs.YtfdcibofiibppaaGreatDoor

set_option maxRecDepth 8000
namespace Go.Proofs.YtfdcibofiibppaaGreatDoor
open Go Go.Dv
open Go.Vc (D shrI xorI andI and255)
open Go.RowKit (Below)
open Go.Vc (CellF RowF ValsF okV vis)
theorem okA_okR {w : World} {ok0 : Nat → Prop} {L : Ob} {β : Nat → Option Nat} {b : Nat} (h : okA ok0 L β b) : okR w ok0 L β L β b := ⟨h.1, fun _ => .inl h.2⟩
theorem copyCheck_w (w : World) (b : Nat) (p v : Value) (lh : Nat × Nat) (hb : w.heap[b]? = some (.cells #[p, v] 155 lh)) (hlh : Lh 2 lh) (hp : p = .pointer none ∨ p = .pointer (some ⟨b, 0, none⟩)) :
    Calls Tryz.prog 204 #[.pointer (some ⟨b, 0, none⟩)] w fun e w' => e = .returned (.tuple #[]) ∧ ∃ p', (p' = .pointer none ∨ p' = .pointer (some ⟨b, 0, none⟩)) ∧ w' = w.setRow b #[p', v] := by
  have hc : w.cell? ⟨b, 0, none⟩ = some p := by simp [World.cell?, hb]
  have hself : w.setRow b #[p, v] = w := setRow_self w b _ _ _ hb
  rcases hp with rfl | rfl
  · have hsh : w.shape? b = some (155, 2) := by simp [World.shape?, hb]
    have hfz : w.frozen? ⟨b, 0, none⟩ = false := by
      have := hlh 0 (by decide)
      obtain ⟨lo, hi⟩ := lh
      simp only [World.frozen?, hb, Bool.and_eq_false_iff, decide_eq_false_iff_not]
      simp only at this; omega
    refine (Any.Builder_copyCheck_fresh { Tryz.lays155 with } Tryz.Builder_Extra_155.toX72 b w hc hsh hfz).mono ?_
    rintro e w' ⟨rfl, rfl⟩
    exact ⟨rfl, _, .inr rfl, by rw [setCell_eq_setRow w b 0 _ _ _ _ hb]; rfl⟩
  · refine (Any.Builder_copyCheck_used { Tryz.lays155 with } Tryz.Builder_Extra_155.toX72 b w hc).mono ?_
    rintro e w' ⟨rfl, rfl⟩
    exact ⟨rfl, _, .inr rfl, hself.symm⟩
theorem copyCheck_d (x : C) (hx : flatC x = true) (hf : fpC x = []) (hx1 : x ≠ .self) : Cl Tryz.prog 204 [.c (.p 9000 0)] [[.self, x]] fun r os => r = .tu [] ∧ os = [[.self, x]] := by
  refine ⟨by kernel_rfl, fun w β ok0 vs ha ho hg => ?_⟩
  have hL : lent [.c (.p 9000 0)] [[.self, x]] = expB 0 [[.self, x]] := rfl
  have hB : back (.tu []) [[.self, x]] = expB 0 [[.self, x]] := rfl
  generalize hLL : expB 0 [[C.self, x]] = L at hL hB
  rw [hL] at ha ho hg ⊢
  have hlk : Go.Dv.look L 9000 = some (.str (expC 9200 [.self, x])) := by rw [← hLL]; rfl
  cases vs with
  | nil => exact ha.elim
  | cons v0 r =>
    cases r with
    | cons _ _ => exact ha.2.elim
    | nil =>
      obtain ⟨b, hb, rfl⟩ := ha.1
      obtain ⟨b', cells, ty, lh, hb', hc, hlh, hsf, hrel⟩ := ho.rel 9000 _ hlk
      have : b' = b := by rw [hb] at hb'; injection hb' with e; exact e.symm
      subst this
      obtain ⟨rfl, hp⟩ := hsf 0 rfl
      obtain ⟨p, v, hcl⟩ : ∃ p v, cells = #[p, v] := by
        have := hrel.length
        have h2 : cells.toList.length = 2 := by rw [← this]; rfl
        match hq : cells.toList, h2 with
        | [p, v], _ => exact ⟨p, v, by rw [← Array.toArray_toList (xs := cells), hq]⟩
      subst hcl
      have how : ownB L β b' := ⟨9000, _, hlk, hb⟩
      refine (copyCheck_w w b' p v lh hc (by simpa using hlh) (by simpa using hp)).mono ?_
      rintro e w' ⟨rfl, p', hp', rfl⟩
      have hoth : ∀ y, y ≠ b' → (w.setRow b' #[p', v]).heap[y]? = w.heap[y]? := fun y hy => setRow_other w b' y _ hy
      have hnew := setRow_heap w b' #[p, v] #[p', v] 155 _ hc
      have hcells : ∀ (y : Nat) cs2 ty2 lh2, w.heap[y]? = some (.cells cs2 ty2 lh2) → ∃ cs3 lh3, (w.setRow b' #[p', v]).heap[y]? = some (.cells cs3 ty2 lh3) ∧ cs3.size = cs2.size := fun y cs2 ty2 lh2 hy => by
        by_cases e : y = b'
        · subst e
          rw [hc] at hy; injection hy with hy; injection hy with e1 e2 e3
          subst e1 e2 e3
          exact ⟨_, _, hnew, rfl⟩
        · exact ⟨cs2, lh2, (hoth y e).trans hy, rfl⟩
      have hst : Stab w (w.setRow b' #[p', v]) (okA ok0 L β) (okR w ok0 L β L β) := ⟨fun y _ hy => ⟨hoth y fun e => hy.1 (e ▸ how), okA_okR hy⟩, hcells⟩
      refine ⟨_, .tu [], [[.self, x]], β, rfl, ⟨rfl, rfl⟩, ?_⟩
      refine ⟨⟨[], rfl, trivial⟩, ?_, fun _ _ => rfl, rfl, ?_, by simp [Wd], ⟨rfl, rfl, rfl⟩, ?_, ?_⟩
      · rw [hB]
        refine ⟨fun i o hl => ?_, ho.inj⟩
        by_cases hi : i = 9000
        · subst hi
          rw [hlk] at hl; injection hl with hl; subst hl
          have hr := RelL.st hst hrel
          refine ⟨b', #[p', v], 155, lh, hb, hnew, by simpa using hlh, fun k hk => ?_, ?_⟩
          · refine ⟨rfl, ?_⟩
            match k, hk with
            | 0, _ => simpa using hp'
            | 1, hk =>
              have := expC_self hk
              simp at this
              exact absurd this hx1
          · refine ⟨?_, hr.2⟩
            rcases hp' with h | h
            · exact .inl h
            · exact .inr ⟨b', h⟩
        · refine (ho.rel i o hl).st hst fun y hy => hoth y fun e => ?_
          subst e
          exact hi (ho.inj i 9000 o _ y hl hlk hy hb)
      · rw [hB]
        exact ⟨by simp, fun y _ hn => hoth y fun e => hn (e ▸ how), fun y _ h => h, hcells⟩
      · have : fps (.tu []) [[.self, x]] = [] := by show [] ++ (([] ++ (fpC x ++ [])) ++ []) = []; rw [hf]; rfl
        rw [this]; exact ⟨List.nodup_nil, fun y hy => by cases hy⟩
      · have h1 : flatL [C.self, x] = true := by show (true && (flatC x && true)) = true; rw [hx]; rfl
        show (true && true && ((flatL [C.self, x] && true) && true) && true) = true
        rw [h1]; rfl
theorem WriteString_d (bs : List UInt8) (s : ByteArray) (h : bs.length + s.size ≤ 100000000) : Cl Tryz.prog 138 [.c (.p 9000 0), vs s] [[.self, .ow 5 bs.length (bytesD bs) none]] fun r os => r = .tu [([.v (.int .i64 s.size)], true), ([.v .nilIface], true)] ∧ os = [[.self, .ow 5 (bs.length + s.size) (bytesD (bs ++ s.data.toList)) none]] := by
  refine cl_of_d follows_mixed false Tryz.func138 rfl (by kernel_rfl) ?_
  simp only [Tryz.f138, tt, seval]
  refine CallQ.intro (copyCheck_d (.ow 5 bs.length (bytesD bs) none) rfl rfl (fun e => by cases e)) ?_ ?_ ?_
  · decide
  · simp only [tt, seval]
  rintro r os ⟨rfl, rfl⟩ hos
  simp only [tt, seval]
  refine ⟨by kernel_rfl, by rw [bytesD_len, size_toList, Nat.mul_one], ⟨by simp only [maxLen]; omega, by omega⟩, fun _ => ?_⟩
  rw [bytesD_app]
  refine ⟨_, _, ⟨rfl, rfl⟩, endOk ?_⟩
  simp only [tt, seval]

end Go.Proofs.YtfdcibofiibppaaGreatDoor

namespace Go.Proofs.YtfdcibofiibppaaGreatDoor
open Go Go.Shelf Go.RowKit Go.Proofs
section
variable {P : Program} {ρ : Ren}
/-- From one world to the other: what is not g stands; g has its cells. -/
structure But (g : Option Nat) (w w' : World) : Prop where
  size : w.heap.size ≤ w'.heap.size
  keep : ∀ x, x < w.heap.size → g ≠ some x → w'.heap[x]? = w.heap[x]?
  cells : ∀ x, g = some x → ∀ cs t lh, w.heap[x]? = some (.cells cs t lh) → ∃ lh', w'.heap[x]? = some (.cells cs t lh')
  os : w'.os = w.os
  tape : w'.tape = w.tape
  output : w'.output = w.output
theorem But.drew (g : Option Nat) (w : World) : But g w w.drew := ⟨Nat.le_refl _, fun _ _ _ => rfl, fun _ _ _ _ lh h => ⟨lh, h⟩, rfl, rfl, rfl⟩
theorem But.alloc {g : Option Nat} {w w' : World} (h : But g w w') (o : Obj) : But g w (w'.alloc o) where
  size := by have := h.size; simp; omega
  keep := fun x hx hg => (Go.heap_alloc_old w' o (Nat.lt_of_lt_of_le hx h.size)).trans (h.keep x hx hg)
  cells := fun x hg cs t lh hc => by
    obtain ⟨lh', h1⟩ := h.cells x hg cs t lh hc
    exact ⟨lh', (Go.heap_alloc_old w' o (Array.getElem?_eq_some_iff.1 h1).1).trans h1⟩
  os := h.os
  tape := h.tape
  output := h.output
theorem But.freeze {w w' : World} (g n : Nat) (h : But (some g) w w') : But (some g) w (w'.freeze ⟨g, 0, none⟩ n) := by
  unfold World.freeze
  split
  · exact h
  · refine ⟨by simpa using h.size, fun x hx hg => ?_, fun x hg cs t lh hc => ?_, h.os, h.tape, h.output⟩
    · have : ¬ g = x := fun e => hg (by rw [e])
      simp only [Array.getElem?_modify, if_neg this]; exact h.keep x hx hg
    · obtain ⟨lh', h1⟩ := h.cells x hg cs t lh hc
      injection hg with hg; subst hg
      simp only [Array.getElem?_modify, if_true, h1, Option.map_some]
      exact ⟨_, rfl⟩
set_option maxHeartbeats 1000000 in
set_option maxRecDepth 100000 in
theorem string_some (L : Lays.n169 P ρ) (X : Builder.Extra P ρ) (b g cap : Nat) (p : Value) (cur : Array Value) (fz : Nat × Nat) (l : List UInt8) (w : World) (h0 : l ≠ []) (hbk : w.heap[b]? = some (.cells #[p, .slice (some ⟨g, 0, none⟩) l.length cap] (ρ.t 72) fz))
    (hg : ∃ fg, w.heap[g]? = some (.cells cur (ρ.t 5) fg)) (hnc : l.length ≤ cap) (hcm : cap ≤ maxLen) (hcs : cap ≤ cur.size) (htake : ∀ (j : Nat) (x : UInt8), l[j]? = some x → cur.toList[j]? = some (Value.int .u8 (x.toNat : Int))) :
    Calls P (ρ.f 169) #[.pointer (some ⟨b, 0, none⟩)] w fun e w' => e = .returned (.string ⟨l.toArray⟩) ∧ But (some g) w w' := by
  obtain ⟨fg, hg⟩ := hg
  have hl0 : l.length ≠ 0 := by simpa using h0
  have c1 : w.drew.cell? ⟨b, 1, none⟩ = some (.slice (some ⟨g, 0, none⟩) l.length cap) := by
    have : w.drew.heap[b]? = some (.cells #[p, .slice (some ⟨g, 0, none⟩) l.length cap] (ρ.t 72) fz) := hbk
    rw [Lib.cell_of_heap this]; rfl
  have hSD : (Builtin.unsafeSliceData_ #[(ρ.t 37)] (ρ.t 127) #[.slice (some ⟨g, 0, none⟩) l.length cap]).run P w.drew = .ok (.pointer (some ⟨g, 0, none⟩)) w.drew :=
    Lib.run_unsafeSliceData_row _ _ _ _ _ _ (by omega)
  have hUS : (Builtin.unsafeString_ #[(ρ.t 127), (ρ.t 3)] (ρ.t 9) #[.pointer (some ⟨g, 0, none⟩), .int .i64 l.length]).run P w.drew = .ok (.string ⟨l.toArray⟩) (w.drew.freeze ⟨g, 0, none⟩ l.length) := by
    refine Lib.run_unsafeString_row w.drew (ρ.t 127) (ρ.t 3) (ρ.t 9) (ρ.t 5) L.t127 X.cellsByte g cur.size (by have hg' : w.drew.heap[g]? = some (.cells cur (ρ.t 5) fg) := hg; simp [World.shape?, hg']) l h0 (by omega) (by unfold maxLen at hcm; omega) ?_
    intro j x hx
    have hg' : w.drew.heap[g]? = some (.cells cur (ρ.t 5) fg) := hg
    have e : (⟨g, 0, none⟩ : Addr).add j = ⟨g, j, none⟩ := by unfold Addr.add; split <;> simp_all
    rw [e, Lib.cell_of_heap hg']
    have := htake j x hx
    simpa using this
  have mixed := L.mixed
  have t72 := L.t72; have a72 := L.a72; have z72 := L.z72; have v72 := L.v72; have u72 := run_underlying L.t72
  have t70 := L.t70; have a70 := L.a70; have z70 := L.z70; have v70 := L.v70; have u70 := run_underlying L.t70
  have t37 := L.t37; have a37 := L.a37; have z37 := L.z37; have v37 := L.v37; have u37 := run_underlying L.t37
  have t127 := L.t127; have a127 := L.a127; have z127 := L.z127; have v127 := L.v127; have u127 := run_underlying L.t127
  have t3 := L.t3; have a3 := L.a3; have z3 := L.z3; have v3 := L.v3; have u3 := run_underlying L.t3
  have t9 := L.t9; have a9 := L.a9; have z9 := L.z9; have v9 := L.v9; have u9 := run_underlying L.t9
  have t5 := X.t5; have a5 := X.a5; have z5 := X.z5; have v5 := X.v5; have u5 := run_underlying X.t5
  go_enter L.f169, Body.n169_ntmps ρ
  go_wp2
  go_region_o
  all_goals (go_wp2; go_ret; exact ⟨rfl, (But.drew _ w).freeze g _⟩)
set_option maxHeartbeats 1000000 in
set_option maxRecDepth 100000 in
theorem string_none (L : Lays.n169 P ρ) (X : Builder.Extra P ρ) (b : Nat) (p : Value) (fz : Nat × Nat) (w : World) (hbk : w.heap[b]? = some (.cells #[p, .slice none 0 0] (ρ.t 72) fz)) :
    Calls P (ρ.f 169) #[.pointer (some ⟨b, 0, none⟩)] w fun e w' => e = .returned (.string ⟨#[]⟩) ∧ But none w w' := by
  have hUS := Any.unsafeString_none L X
  have c1 : w.drew.cell? ⟨b, 1, none⟩ = some (.slice none 0 0) := by
    have : w.drew.heap[b]? = some (.cells #[p, .slice none 0 0] (ρ.t 72) fz) := hbk
    rw [Lib.cell_of_heap this]; rfl
  have hSD : (Builtin.unsafeSliceData_ #[(ρ.t 37)] (ρ.t 127) #[.slice none 0 0]).run P w.drew = .ok (.pointer none) w.drew := rfl
  have mixed := L.mixed
  have t72 := L.t72; have a72 := L.a72; have z72 := L.z72; have v72 := L.v72; have u72 := run_underlying L.t72
  have t70 := L.t70; have a70 := L.a70; have z70 := L.z70; have v70 := L.v70; have u70 := run_underlying L.t70
  have t37 := L.t37; have a37 := L.a37; have z37 := L.z37; have v37 := L.v37; have u37 := run_underlying L.t37
  have t127 := L.t127; have a127 := L.a127; have z127 := L.z127; have v127 := L.v127; have u127 := run_underlying L.t127
  have t3 := L.t3; have a3 := L.a3; have z3 := L.z3; have v3 := L.v3; have u3 := run_underlying L.t3
  have t9 := L.t9; have a9 := L.a9; have z9 := L.z9; have v9 := L.v9; have u9 := run_underlying L.t9
  have t5 := X.t5; have a5 := X.a5; have z5 := X.z5; have v5 := X.v5; have u5 := run_underlying X.t5
  go_enter L.f169, Body.n169_ntmps ρ
  go_wp2
  go_region_o
  all_goals (go_wp2; go_ret; exact ⟨rfl, But.drew _ w⟩)
set_option maxHeartbeats 1000000 in
set_option maxRecDepth 100000 in
theorem string_noroom (L : Lays.n169 P ρ) (X : Builder.Extra P ρ) (b g : Nat) (p : Value) (cur : Array Value) (fz fg : Nat × Nat) (w : World) (hbk : w.heap[b]? = some (.cells #[p, .slice (some ⟨g, 0, none⟩) 0 0] (ρ.t 72) fz)) (hg : w.heap[g]? = some (.cells cur (ρ.t 5) fg)) :
    Calls P (ρ.f 169) #[.pointer (some ⟨b, 0, none⟩)] w fun e w' => e = .returned (.string ⟨#[]⟩) ∧ But none w w' := by
  have hUS := Any.unsafeString_none L X
  have hlt : b < w.heap.size := (Array.getElem?_eq_some_iff.1 hbk).1
  have c1 : w.drew.cell? ⟨b, 1, none⟩ = some (.slice (some ⟨g, 0, none⟩) 0 0) := by
    have : w.drew.heap[b]? = some (.cells #[p, .slice (some ⟨g, 0, none⟩) 0 0] (ρ.t 72) fz) := hbk
    rw [Lib.cell_of_heap this]; rfl
  have hSD : (Builtin.unsafeSliceData_ #[(ρ.t 37)] (ρ.t 127) #[.slice (some ⟨g, 0, none⟩) 0 0]).run P w.drew = .ok (.pointer (some ⟨w.drew.heap.size, 0, none⟩)) (w.drew.alloc (.view ⟨g, 0, none⟩ (ρ.t 5))) :=
    Lib.run_unsafeSliceData_zero w.drew _ _ (ρ.t 5) L.t127 ⟨g, 0, none⟩ 0 ((ρ.t 5), cur.size) (by have hg' : w.drew.heap[g]? = some (.cells cur (ρ.t 5) fg) := hg; simp [World.shape?, hg'])
  have c2 : (w.drew.alloc (.view ⟨g, 0, none⟩ (ρ.t 5))).cell? ⟨b, 1, none⟩ = some (.slice (some ⟨g, 0, none⟩) 0 0) := by
    have : (w.drew.alloc (.view ⟨g, 0, none⟩ (ρ.t 5))).heap[b]? = _ := (Lib.alloc_old w.drew _ b hlt).trans hbk
    rw [Lib.cell_of_heap this]; rfl
  have c3 : (w.alloc (.view ⟨g, 0, none⟩ (ρ.t 5))).drew.cell? ⟨b, 1, none⟩ = some (.slice (some ⟨g, 0, none⟩) 0 0) := c2
  have c0 : w.cell? ⟨b, 1, none⟩ = some (.slice (some ⟨g, 0, none⟩) 0 0) := c1
  have mixed := L.mixed
  have t72 := L.t72; have a72 := L.a72; have z72 := L.z72; have v72 := L.v72; have u72 := run_underlying L.t72
  have t70 := L.t70; have a70 := L.a70; have z70 := L.z70; have v70 := L.v70; have u70 := run_underlying L.t70
  have t37 := L.t37; have a37 := L.a37; have z37 := L.z37; have v37 := L.v37; have u37 := run_underlying L.t37
  have t127 := L.t127; have a127 := L.a127; have z127 := L.z127; have v127 := L.v127; have u127 := run_underlying L.t127
  have t3 := L.t3; have a3 := L.a3; have z3 := L.z3; have v3 := L.v3; have u3 := run_underlying L.t3
  have t9 := L.t9; have a9 := L.a9; have z9 := L.z9; have v9 := L.v9; have u9 := run_underlying L.t9
  have t5 := X.t5; have a5 := X.a5; have z5 := X.z5; have v5 := X.v5; have u5 := run_underlying X.t5
  go_enter L.f169, Body.n169_ntmps ρ
  go_wp2
  go_region_o
  all_goals (go_wp2; go_ret; exact ⟨rfl, (But.drew _ w).alloc _⟩)
set_option maxHeartbeats 1000000 in
set_option maxRecDepth 100000 in
theorem string_room (L : Lays.n169 P ρ) (X : Builder.Extra P ρ) (b g cap : Nat) (p : Value) (fz : Nat × Nat) (w : World) (hc0 : cap ≠ 0) (hbk : w.heap[b]? = some (.cells #[p, .slice (some ⟨g, 0, none⟩) 0 cap] (ρ.t 72) fz)) :
    Calls P (ρ.f 169) #[.pointer (some ⟨b, 0, none⟩)] w fun e w' => e = .returned (.string ⟨#[]⟩) ∧ But none w w' := by
  have hUS := Any.unsafeString_none L X
  have c1 : w.drew.cell? ⟨b, 1, none⟩ = some (.slice (some ⟨g, 0, none⟩) 0 cap) := by
    have : w.drew.heap[b]? = some (.cells #[p, .slice (some ⟨g, 0, none⟩) 0 cap] (ρ.t 72) fz) := hbk
    rw [Lib.cell_of_heap this]; rfl
  have hSD : (Builtin.unsafeSliceData_ #[(ρ.t 37)] (ρ.t 127) #[.slice (some ⟨g, 0, none⟩) 0 cap]).run P w.drew = .ok (.pointer (some ⟨g, 0, none⟩)) w.drew :=
    Lib.run_unsafeSliceData_row _ _ _ _ _ _ hc0
  clear hc0
  have mixed := L.mixed
  have t72 := L.t72; have a72 := L.a72; have z72 := L.z72; have v72 := L.v72; have u72 := run_underlying L.t72
  have t70 := L.t70; have a70 := L.a70; have z70 := L.z70; have v70 := L.v70; have u70 := run_underlying L.t70
  have t37 := L.t37; have a37 := L.a37; have z37 := L.z37; have v37 := L.v37; have u37 := run_underlying L.t37
  have t127 := L.t127; have a127 := L.a127; have z127 := L.z127; have v127 := L.v127; have u127 := run_underlying L.t127
  have t3 := L.t3; have a3 := L.a3; have z3 := L.z3; have v3 := L.v3; have u3 := run_underlying L.t3
  have t9 := L.t9; have a9 := L.a9; have z9 := L.z9; have v9 := L.v9; have u9 := run_underlying L.t9
  have t5 := X.t5; have a5 := X.a5; have z5 := X.z5; have v5 := X.v5; have u5 := run_underlying X.t5
  go_enter L.f169, Body.n169_ntmps ρ
  go_wp2
  go_region_o
  all_goals (go_wp2; go_ret; exact ⟨rfl, But.drew _ w⟩)
end

end Go.Proofs.YtfdcibofiibppaaGreatDoor

set_option maxRecDepth 8000
namespace Go.Proofs.YtfdcibofiibppaaGreatDoor
open Go Go.Dv
open Go.Vc (D shrI xorI andI and255)
open Go.Vc (CellF RowF ValsF okV vis)
theorem bytes_get {w : World} : ∀ {l : List UInt8} {vs : List Value} {G : List Nat}, ValsF w (bytesD l) vs G → ∀ (j : Nat) (x : UInt8), l[j]? = some x → vs[j]? = some (Value.int .u8 (x.toNat : Int))
  | [], vs, G, _, j, b, hj => by simp at hj
  | c :: r, [], G, hv, _, _, _ => hv.elim
  | c :: r, v :: t, G, hv, 0, b, hj => by
    obtain ⟨F1, F2, h1, h2, _⟩ := hv
    simp at hj; subst hj; obtain ⟨rfl, _⟩ := h1; rfl
  | c :: r, v :: t, G, hv, j + 1, b, hj => by
    obtain ⟨F1, F2, h1, h2, _⟩ := hv
    simpa using bytes_get h2 j b (by simpa using hj)
theorem String_d (bs : List UInt8) (hbl : bs.length ≤ 100000000) : Cl Tryz.prog 141 [.c (.p 9000 0)] [[.self, .ow 5 bs.length (bytesD bs) none]] fun r os => r = vs ⟨bs.toArray⟩ ∧ os = [[.dead, .dead]] := by
  refine ⟨by kernel_rfl, fun w β ok0 vals ha ho hg => ?_⟩
  have hL : lent [.c (.p 9000 0)] [[.self, .ow 5 bs.length (bytesD bs) none]] = [(9000, .str [.self, .s 19200 bs.length]), (19200, .arr 5 bs.length (bytesD bs) none)] := rfl
  have hB : back (vs ⟨bs.toArray⟩) [[.dead, .dead]] = [(9000, .str [.dead, .dead])] := rfl
  rw [hL] at ha ho hg ⊢
  cases vals with
  | nil => exact ha.elim
  | cons v0 r =>
    cases r with
    | cons _ _ => exact ha.2.elim
    | nil =>
      obtain ⟨b, hb, rfl⟩ := ha.1
      obtain ⟨b', cells, ty, lh, hb', hc, hlh, hsf, hrel⟩ := ho.rel 9000 _ rfl
      have : b' = b := by rw [hb] at hb'; injection hb' with e; exact e.symm
      subst this
      obtain ⟨rfl, hp⟩ := hsf 0 rfl
      obtain ⟨p, v, hcl⟩ : ∃ p v, cells = #[p, v] := by
        have := hrel.length
        have h2 : cells.toList.length = 2 := by rw [← this]; rfl
        match hq : cells.toList, h2 with
        | [p, v], _ => exact ⟨p, v, by rw [← Array.toArray_toList (xs := cells), hq]⟩
      subst hcl
      have hv : OwnS Tryz.prog w (β 19200) bs.length v := hrel.2.1
      have how : ownB [(9000, .str [.self, .s 19200 bs.length]), (19200, .arr 5 bs.length (bytesD bs) none)] β b' := ⟨9000, _, rfl, hb⟩
      have fin : ∀ (g : Option Nat) (w' : World), (∀ y, g = some y → β 19200 = some y) → But g w w' → ∃ v r objs' β', Ending.returned (.string ⟨bs.toArray⟩) = .returned v ∧ (r = vs ⟨bs.toArray⟩ ∧ objs' = [[.dead, .dead]]) ∧
          Post Tryz.prog w β ok0 [(9000, .str [.self, .s 19200 bs.length]), (19200, .arr 5 bs.length (bytesD bs) none)] 1 v w' r objs' β' := by
        intro g w' hgo hbut
        have hgb : g ≠ some b' := fun e => by
          have := ho.inj 9000 19200 _ _ b' rfl rfl hb (hgo b' e)
          cases this
        refine ⟨_, vs ⟨bs.toArray⟩, [[.dead, .dead]], β, rfl, ⟨rfl, rfl⟩, ?_⟩
        refine ⟨⟨rfl, ?_⟩, ?_, fun _ _ => rfl, rfl, ?_, hbut.size, ⟨hbut.os, hbut.tape, hbut.output⟩, ?_, rfl⟩
        · show ByteArray.size ⟨bs.toArray⟩ ≤ maxLen
          show (List.toArray _).size ≤ maxLen
          simp only [List.size_toArray, maxLen]; omega
        · rw [hB]
          refine ⟨fun i o hl => ?_, fun i j o o' x hl hl' _ _ => ?_⟩
          · have hi : i = 9000 := by
              simp only [Go.Dv.look] at hl
              split at hl
              · rename_i e; exact e.symm
              · cases hl
            subst hi
            simp only [Go.Dv.look, if_true] at hl; injection hl with hl; subst hl
            exact ⟨b', #[p, v], 155, lh, hb, (hbut.keep b' (lt_of_heap hc) hgb).trans hc, hlh, SelfOk.none (fun x hx => by simp at hx; subst hx; exact fun e => by cases e), ⟨trivial, trivial, trivial⟩⟩
          · have a1 : ∀ {i : Nat} {o : O}, Go.Dv.look [(9000, O.str [.dead, .dead])] i = some o → i = 9000 := fun {i o} hl => by
              simp only [Go.Dv.look] at hl
              split at hl
              · rename_i e; exact e.symm
              · cases hl
            rw [a1 hl, a1 hl']
        · rw [hB]
          refine ⟨hbut.size, fun y hy hn => hbut.keep y hy fun e => hn ⟨19200, _, rfl, hgo y e⟩, fun y _ ⟨i, o, hl, hy⟩ => ?_, fun y cs ty2 lh2 hy => ?_⟩
          · have hi : i = 9000 := by
              simp only [Go.Dv.look] at hl
              split at hl
              · rename_i e; exact e.symm
              · cases hl
            subst hi
            exact ⟨9000, _, rfl, hy⟩
          · by_cases e : g = some y
            · obtain ⟨lh', h1⟩ := hbut.cells y e cs ty2 lh2 hy
              exact ⟨cs, lh', h1, rfl⟩
            · exact ⟨cs, lh2, (hbut.keep y (lt_of_heap hy) e).trans hy, rfl⟩
        · exact ⟨List.nodup_nil, fun y hy => by cases hy⟩
      have empty : ∀ (w' : World), bs.length = 0 → But none w w' → ∃ v r objs' β', Ending.returned (.string ⟨#[]⟩) = .returned v ∧ (r = vs ⟨bs.toArray⟩ ∧ objs' = [[.dead, .dead]]) ∧
          Post Tryz.prog w β ok0 [(9000, .str [.self, .s 19200 bs.length]), (19200, .arr 5 bs.length (bytesD bs) none)] 1 v w' r objs' β' := by
        intro w' h0 hbut
        have := fin none w' (fun y e => by cases e) hbut
        have hbs : bs = [] := List.eq_nil_of_length_eq_zero h0
        rw [hbs] at this ⊢
        exact this
      rcases hbg : β 19200 with _ | g
      · rw [hbg] at hv
        obtain ⟨h0, rfl⟩ := hv
        refine (string_none Tryz.lays169 Tryz.Builder_Extra_169 b' p lh w hc).mono ?_
        rintro e w' ⟨rfl, hbut⟩
        exact empty w' h0 hbut
      · rw [hbg] at hv
        obtain ⟨cap, cs, ty, lhg, rfl, hnc, hcm, hcg, hsz⟩ := hv
        rcases ho.rel 19200 _ rfl with ⟨h1, _⟩ | ⟨g', vs', hd, junk, G, lh', h1, h2, hlh', h3, h4, h5, h6, h7⟩
        · rw [hbg] at h1; cases h1
        rw [hbg] at h1; injection h1 with h1; subst h1
        rw [hcg] at h2; injection h2 with h2; injection h2 with e1 e2 e3
        subst e1 e2 e3
        have hcs : cap * 1 ≤ cs.size := hsz 1 (by kernel_rfl)
        by_cases h0 : bs.length = 0
        · by_cases hc0 : cap = 0
          · subst hc0
            rw [h0] at hc
            refine (string_noroom Tryz.lays169 Tryz.Builder_Extra_169 b' g p cs lh lhg w hc hcg).mono ?_
            rintro e w' ⟨rfl, hbut⟩
            exact empty w' h0 hbut
          · rw [h0] at hc
            refine (string_room Tryz.lays169 Tryz.Builder_Extra_169 b' g cap p lh w hc0 hc).mono ?_
            rintro e w' ⟨rfl, hbut⟩
            exact empty w' h0 hbut
        · refine (string_some Tryz.lays169 Tryz.Builder_Extra_169 b' g cap p cs lh bs w (fun e => h0 (by rw [e]; rfl)) hc ⟨lhg, hcg⟩ hnc hcm (by omega) (fun j x hx => ?_)).mono ?_
          · have := bytes_get h4 j x hx
            rw [h3, List.getElem?_append_left (List.getElem?_eq_some_iff.1 this).1]; exact this
          · rintro e w' ⟨rfl, hbut⟩
            exact fin (some g) w' (fun y e => by rw [hbg]; exact e) hbut

end Go.Proofs.YtfdcibofiibppaaGreatDoor

set_option maxRecDepth 8000
namespace Go.Proofs.YtfdcibofiibppaaGreatDoor
open Go Go.Dv
open Go.Vc (D shrI xorI andI and255)

open Go.Lib in
theorem decFrom_ge : ∀ (l : List UInt8) (acc m : Nat), decFrom acc l = some m → acc ≤ m
  | [], acc, m, h => by simp only [decFrom, Option.some.injEq] at h; omega
  | b :: r, acc, m, h => by
    simp only [decFrom] at h
    split at h
    · have := decFrom_ge r _ m h; omega
    · cases h
open Go.Lib in
theorem parse_dec : ∀ (l : List UInt8) (acc m : Nat), decFrom acc l = some m → m < 18446744073709551616 → parseUint10 acc l = .ok m
  | [], acc, m, h, _ => by simp only [decFrom, Option.some.injEq] at h; subst h; rfl
  | b :: r, acc, m, h, hm => by
    simp only [decFrom, digitVal] at h
    split at h
    · rename_i d hd
      split at hd
      · rename_i hb
        injection hd with hd
        have := decFrom_ge r _ m h
        simp only [parseUint10, if_pos hb]
        rw [if_neg (by omega), if_neg (by omega), hd]
        exact parse_dec r _ m h hm
      · cases hd
    · cases h
open Go.Lib in
theorem decFrom_snoc : ∀ (l : List UInt8) (acc : Nat) (b : UInt8), decFrom acc (l ++ [b]) = match decFrom acc l, digitVal b with | some n, some d => some (n * 10 + d) | _, _ => none
  | [], acc, b => by simp only [List.nil_append, decFrom]; cases digitVal b <;> rfl
  | c :: r, acc, b => by
    simp only [List.cons_append, decFrom]
    cases digitVal c with
    | none => rfl
    | some d => exact decFrom_snoc r _ b
open Go.Lib in
theorem decFrom_none {l : List UInt8} {i : Nat} {b : UInt8} (hb : l[i]? = some b) (hd : digitVal b = none) : ∀ acc, decFrom acc l = none := by
  induction l generalizing i with
  | nil => simp at hb
  | cons c r ih =>
    intro acc
    simp only [decFrom]
    cases i with
    | zero => simp only [List.getElem?_cons_zero, Option.some.injEq] at hb; subst hb; rw [hd]
    | succ i =>
      cases digitVal c with
      | none => rfl
      | some d => exact ih (by simpa using hb) _
open Go.Lib in
theorem digitVal_of {d : Nat} (h : d < 10) : digitVal (UInt8.ofNat (48 + d)) = some d := by
  have e : (UInt8.ofNat (48 + d)).toNat = 48 + d := by simp; omega
  unfold digitVal
  rw [e, if_pos (by omega)]
  congr 1; omega
open Go.Lib in
theorem decFrom_digits (u : Nat) : decFrom 0 (decDigits u) = some u := by
  induction u using Nat.strongRecOn with
  | ind u ih =>
    rw [decDigits]
    split
    · rename_i h
      have := decFrom_snoc [] 0 (UInt8.ofNat (48 + u))
      rw [digitVal_of h] at this
      simpa [decFrom] using this
    · rename_i h
      rw [decFrom_snoc, ih (u / 10) (by omega), digitVal_of (by omega)]
      simp only [Option.some.injEq]; omega
open Go.Lib in
theorem decDigits_head (u : Nat) : ∃ b r, decDigits u = b :: r ∧ 48 ≤ b.toNat ∧ b.toNat ≤ 57 := by
  induction u using Nat.strongRecOn with
  | ind u ih =>
    rw [decDigits]
    split
    · rename_i h
      exact ⟨_, [], rfl, by simp; omega, by simp; omega⟩
    · rename_i h
      obtain ⟨b, r, h1, h2⟩ := ih (u / 10) (by omega)
      rw [h1]
      exact ⟨b, _, rfl, h2⟩
open Go.Lib in
/-- The number that a text is the decimal form of. -/
def numN (l : List UInt8) : Option Nat := match decFrom 0 l with
  | some m => if m < 9223372036854775808 ∧ decDigits m = l then some m else none
  | none => none
open Go.Lib in
theorem numN_some {l : List UInt8} {m : Nat} : numN l = some m ↔ m < 9223372036854775808 ∧ decDigits m = l := by
  unfold numN
  constructor
  · intro h
    split at h
    · split at h
      · rename_i hc; injection h with h; subst h; exact hc
      · cases h
    · cases h
  · rintro ⟨h1, rfl⟩
    rw [decFrom_digits]
    simp [h1]
open Go.Lib in
theorem itoa_nat (m : Nat) : itoa (m : Int) = decDigits m := by
  unfold itoa
  rw [if_neg (by omega)]; rfl
open Go.Lib in
theorem atoi_numN {l : List UInt8} {m : Nat} (h : numN l = some m) : atoiAll l = .ok (m : Int) := by
  obtain ⟨h1, rfl⟩ := numN_some.1 h
  obtain ⟨b, r, hb, h2, h3⟩ := decDigits_head m
  have hd := decFrom_digits m
  rw [hb] at hd ⊢
  rw [atoiAll_plain b r (by omega) (by omega)]
  unfold parseMag
  rw [if_neg (by simp), parse_dec _ _ _ hd (by omega)]
  simp only [signless]
  rw [if_neg (by omega)]
open Go.Lib in
theorem numN_atoi {l : List UInt8} {v : Int} (h : atoiAll l = .ok v) (h0 : 0 ≤ v) (hi : itoa v = l) : numN l = some v.toNat := by
  have hb := atoiAll_bounds h
  refine numN_some.2 ⟨by omega, ?_⟩
  rw [← hi]
  unfold itoa
  rw [if_neg (by omega)]

end Go.Proofs.YtfdcibofiibppaaGreatDoor
