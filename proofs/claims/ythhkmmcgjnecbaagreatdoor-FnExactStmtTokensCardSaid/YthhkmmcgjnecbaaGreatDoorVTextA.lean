/-
  The reference and the program read and print words alike.
  Conditions: none.
-/
import Derived.Test.YthhkmmcgjnecbaaGreatDoorVTypes
import Derived.Shelf.Strings.BuilderF
import Derived.Shelf.LaysM
import Derived.Shelf.LaysC
import Derived.Shelf.Strconv.Itoa3
import Derived.Shelf.Strings.Split
import Derived.Shelf.Strings.Replace
import Derived.Shelf.Strconv.AtoiAll
import Derived.Test.YthhkmmcgjnecbaaGreatDoorProg
import Derived.Lib.UnsafeStr
import Derived.Lib.AtoiTie
set_option linter.unusedVariables false
set_option linter.unusedSimpArgs false
set_option maxRecDepth 8000
namespace Go.Proofs.YthhkmmcgjnecbaaGreatDoor
open Go Go.Dv
open Go.Vc (D shrI xorI andI and255)
abbrev int (n : Int) : D := .lit (.int .i64 n)
abbrev bool (b : Bool) : D := .lit (.bool b)
abbrev str (s : ByteArray) : D := .lit (.string s)
abbrev vi (n : Int) : S := .c (.v (.int .i64 n))
abbrev vb (b : Bool) : S := .c (.v (.bool b))
abbrev vs (s : ByteArray) : S := .c (.v (.string s))
structure Val where
 kind : Int
 num : Int
 text : ByteArray
def Val.row (v : Val) : List D := [int v.kind, int v.num, str v.text]
structure Fa where
 code : Int
 name : ByteArray
def subL (l : Int) (s : Nat) : Int := if (s : Int) ≤ l then l - s else -1
def szVal (v : Val) : Nat := v.text.size
theorem subL_le {l : Int} {s : Nat} (h : (s : Int) ≤ l) : subL l s = l - s := if_pos h
theorem subL_gt {l : Int} {s : Nat} (h : l < s) : subL l s = -1 := if_neg (by omega)
theorem subL_bounds {l : Int} {s : Nat} (h0 : 0 ≤ l) : -1 ≤ subL l s ∧ subL l s ≤ l := by unfold subL; split <;> omega
theorem subL_add {l : Int} {a b : Nat} (h : 0 ≤ subL l a) : subL l (a + b) = subL (subL l a) b := by
 unfold subL at *
 split at h
 ·rename_i h1
  rw [if_pos h1]
  by_cases h2 : ((a + b : Nat) : Int) ≤ l
  ·rw [if_pos h2, if_pos (by omega)]; omega
  ·rw [if_neg h2, if_neg (by omega)]
 ·omega
theorem subL_neg {l : Int} {a b : Nat} (h : subL l a < 0) (h0 : 0 ≤ l) : subL l (a + b) = -1 := by
 unfold subL at *
 split at h
 ·omega
 ·exact if_neg (by omega)
theorem viE {a b : Int} (h : a = b) : vi a = vi b := by rw [h]
theorem vsE {a b : ByteArray} (h : a = b) : vs a = vs b := by rw [h]
theorem vbE {a b : Bool} (h : a = b) : vb a = vb b := by rw [h]
theorem take_succ_sum {α : Type} (g : α → Nat) {l : List α} {i : Nat} (h : i < l.length) : ((l.take (i + 1)).map g).sum = ((l.take i).map g).sum + g l[i] := by
 rw [List.take_succ_eq_append_getElem h, List.map_append, List.sum_append]; simp only [List.map_cons, List.map_nil, List.sum_cons, List.sum_nil, Nat.add_zero]
theorem take_sum_le {α : Type} (g : α → Nat) (l : List α) (i : Nat) : ∃ r, (l.map g).sum = ((l.take i).map g).sum + r := ⟨((l.drop i).map g).sum, by
 conv => lhs; rw [← List.take_append_drop i l]
 rw [List.map_append, List.sum_append]⟩
theorem szValue_d (v : Val) (l : Int) (h0 : 0 ≤ l) (h1 : l ≤ 1048576) : Cl Tryz.prog 108 [.ag (csOf v.row), vi l] [] fun r _ => r = vi (subL l (szVal v)) := by
 rw [Val.row]
 refine cl_of_d follows_mixed false Tryz.func108 rfl (by kernel_rfl) ?_
 simp only [Tryz.f108, tt, seval]
 refine fun hs => ?_
 rw [wrap_id (n := l - v.text.size) (by omega) (by omega)]
 refine And.intro (fun h => ?_) (fun h => ?_)
 ·exact ⟨_, _, by rw [szVal, subL_gt (by omega)], end0 rfl⟩
 ·exact ⟨_, _, by rw [szVal, subL_le (by omega)], end0 rfl⟩
theorem toValue_d (v : Val) : Cl Tryz.prog 125 [.ag (csOf v.row)] [] fun r _ => r = .ag (csOf v.row) := by
 rw [Val.row]
 refine cl_of_d follows_mixed false Tryz.func125 rfl (by kernel_rfl) ?_
 simp only [Tryz.f125, tt, seval]
 exact ⟨_, _, rfl, end0 rfl⟩
theorem fillLen {α : Type} {row : α → List D} {sz : Nat} (hsz : ∀ e, (row e).length = sz) {z : List D} (hz : z.length = sz) (l : List α) {i : Nat} (h : i ≤ l.length) :
 ((l.take i).flatMap row ++ (List.replicate (l.length - i) z).flatten).length = l.length * sz := by
 rw [List.length_append, flatMap_len hsz, List.length_flatten, List.map_replicate, List.sum_replicate_nat, hz, List.length_take, Nat.min_eq_left h, ← Nat.add_mul]
 congr 1; omega
theorem fillRow {α : Type} {row : α → List D} {sz : Nat} (hsz : ∀ e, (row e).length = sz) {z : List D} (hz : z.length = sz) {l : List α} {i : Nat} (h : i < l.length) :
 List.take (i * sz) ((l.take i).flatMap row ++ (List.replicate (l.length - i) z).flatten) ++ (row l[i] ++ List.drop (i * sz + sz) ((l.take i).flatMap row ++ (List.replicate (l.length - i) z).flatten)) =
  (l.take (i + 1)).flatMap row ++ (List.replicate (l.length - (i + 1)) z).flatten := by
 have hd : ((l.take i).flatMap row).length = i * sz := by rw [flatMap_len hsz, List.length_take, Nat.min_eq_left (by omega)]
 rw [List.take_left' hd, show l.length - i = l.length - (i + 1) + 1 by omega, List.replicate_succ, List.flatten_cons, ← List.append_assoc _ z, List.drop_left' (by simp [hd, hz]), List.take_succ_eq_append_getElem h, List.flatMap_append]
 simp only [List.flatMap_cons, List.flatMap_nil, List.append_nil, List.append_assoc]
theorem fillLast {α : Type} {row : α → List D} (z : List D) (l : List α) : (l.take l.length).flatMap row ++ (List.replicate (l.length - l.length) z).flatten = l.flatMap row := by simp
theorem eqValue_d (v : Val) : Cl Tryz.prog 139 [.ag (csOf v.row), .ag (csOf v.row)] [] fun r _ => r = vb true := by
 rw [Val.row]
 refine cl_of_d follows_mixed false Tryz.func139 rfl (by kernel_rfl) ?_
 simp only [Tryz.f139, tt, seval]
 exact ⟨_, _, rfl, end0 rfl⟩
theorem l1In_d (a l h : Int) : Cl Tryz.prog 110 [vi a, vi l, vi h] [] fun r _ => r = vb (decide (l ≤ a ∧ a ≤ h)) := by
 refine cl_of_d follows_mixed false Tryz.func110 rfl (by kernel_rfl) ?_
 simp only [Tryz.f110, tt, seval]
 all_goals repeat' first | (refine And.intro (fun h => ?_) (fun h => ?_) <;> try simp only [tt, seval]) | (intro _; try simp only [tt, seval])
 all_goals (refine ⟨_, [], vbE (Bool.eq_iff_iff.2 ?_), end0 rfl⟩)
 all_goals (simp only [decide_eq_true_eq, decide_eq_false_iff_not, Bool.or_eq_true, Bool.and_eq_true, Bool.false_eq_true, Bool.not_eq_true', Bool.not_eq_false', Bool.not_eq_true, true_iff, false_iff] at *)
 all_goals omega
def letB (a : Int) : Bool := decide (97 ≤ a ∧ a ≤ 122) || decide (65 ≤ a ∧ a ≤ 90) || decide (a = 95)
theorem NameOk_d (s : ByteArray) : Cl Tryz.prog 113 [vs s] [] fun r _ => r = vb (decide (1 ≤ s.size ∧ s.size ≤ 20)) := by
 refine cl_of_d follows_mixed false Tryz.func113 rfl (by kernel_rfl) ?_
 simp only [Tryz.f113, tt, seval]
 refine fun hs => ?_
 refine call0 (l1In_d s.size 1 20) ?_ ?_ ?_
 ·decide
 ·simp only [tt, seval]
 rintro r rfl
 simp only [tt, seval]
 exact ⟨_, _, vbE (by simp only [decide_eq_decide]; omega), end0 rfl⟩
theorem iNameOk_d (s : ByteArray) : Cl Tryz.prog 99 [vs s] [] fun r _ => r = vb (decide (1 ≤ s.size ∧ s.size ≤ 20)) := by
 refine cl_of_d follows_mixed false Tryz.func99 rfl (by kernel_rfl) ?_
 simp only [Tryz.f99, tt, seval]
 refine fun hs => ?_
 all_goals repeat' first | (refine And.intro (fun h => ?_) (fun h => ?_) <;> try simp only [tt, seval]) | (intro _; try simp only [tt, seval])
 all_goals (refine ⟨_, [], vbE (Bool.eq_iff_iff.2 ?_), end0 rfl⟩)
 all_goals (simp only [decide_eq_true_eq, decide_eq_false_iff_not, Bool.or_eq_true, Bool.and_eq_true, Bool.false_eq_true, Bool.not_eq_true', Bool.not_eq_false', Bool.not_eq_true, true_iff, false_iff] at *)
 all_goals omega
def up8 (b : UInt8) : UInt8 := if 97 ≤ b.toNat ∧ b.toNat ≤ 122 then b - 32 else b
def foldB (s : ByteArray) : ByteArray := ⟨(s.data.toList.map up8).toArray⟩
theorem size_toList (s : ByteArray) : s.data.toList.length = s.size := by simp
def srow (s : ByteArray) : List D := [str s]
theorem srow_len (n : ByteArray) : (srow n).length = 1 := rfl
theorem srow_tk (v : ByteArray) (r : List D) : takeD 1 (srow v ++ r) = some (srow v) := takeD_row rfl
theorem srow_ne (v : ByteArray) (r : List D) : srow v ++ r ≠ [] := fun h => by cases h
def kws : List ByteArray := [⟨#[83, 69, 76, 69, 67, 84]⟩, ⟨#[68, 73, 83, 84, 73, 78, 67, 84]⟩, ⟨#[70, 82, 79, 77]⟩, ⟨#[74, 79, 73, 78]⟩, ⟨#[79, 78]⟩, ⟨#[87, 72, 69, 82, 69]⟩, ⟨#[79, 82, 68, 69, 82]⟩, ⟨#[66, 89]⟩, ⟨#[65, 83, 67]⟩, ⟨#[68, 69, 83, 67]⟩, ⟨#[76, 73, 77, 73, 84]⟩, ⟨#[65, 83]⟩, ⟨#[65, 78, 68]⟩, ⟨#[79, 82]⟩, ⟨#[78, 79, 84]⟩, ⟨#[73, 83]⟩, ⟨#[73, 78]⟩, ⟨#[66, 69, 84, 87, 69, 69, 78]⟩, ⟨#[69, 88, 73, 83, 84, 83]⟩, ⟨#[78, 85, 76, 76]⟩, ⟨#[84, 82, 85, 69]⟩, ⟨#[70, 65, 76, 83, 69]⟩, ⟨#[73, 78, 83, 69, 82, 84]⟩, ⟨#[73, 78, 84, 79]⟩, ⟨#[86, 65, 76, 85, 69, 83]⟩, ⟨#[85, 80, 68, 65, 84, 69]⟩, ⟨#[83, 69, 84]⟩, ⟨#[68, 69, 76, 69, 84, 69]⟩]
def words : List ByteArray := ⟨#[]⟩ :: kws
theorem range29 : List.range 29 = [0, 1, 2, 3, 4, 5, 6, 7, 8, 9, 10, 11, 12, 13, 14, 15, 16, 17, 18, 19, 20, 21, 22, 23, 24, 25, 26, 27, 28] := rfl
theorem rep29 (α : Type) (a : α) : List.replicate 29 a = [a, a, a, a, a, a, a, a, a, a, a, a, a, a, a, a, a, a, a, a, a, a, a, a, a, a, a, a, a] := rfl
theorem l2Words_d : Cl Tryz.prog 159 [] [] fun r _ => r = .c (.sl 29 (words.flatMap srow) none) := by
 refine cl_of_d follows_mixed false Tryz.func159 rfl (by kernel_rfl) ?_
 simp only [tt, seval, Tryz.f159, range29, rep29]
 refine ⟨_, [], rfl, endOk ?_⟩
 simp only [tt, seval, words, kws, srow]
def ixOf (f : ByteArray) (l : List ByteArray) : Int := if l.findIdx (fun w => decide (w = f)) < l.length then l.findIdx (fun w => decide (w = f)) else -1
def key (s : ByteArray) : Int := ixOf (foldB s) kws + 1
end Go.Proofs.YthhkmmcgjnecbaaGreatDoor
namespace Go.Proofs.YthhkmmcgjnecbaaGreatDoor
open Go Go.Shelf Go.Proofs
def Tryz.lays146_ren : Go.Shelf.Ren := ⟨fun | 146 => 132 | 221 => 165 | 268 => 180 | 138 => 181 | 143 => 182 | 195 => 192 | 197 => 193 | 218 => 194 | 219 => 195 | 260 => 201 | 217 => 202 | 225 => 203 | 224 => 204 | 267 => 205 | 266 => 212 | 314 => 213 | n => n, fun | 9 => 9 | 31 => 44 | 3 => 3 | 4 => 4 | 0 => 0 | 105 => 197 | 21 => 21 | 5 => 5 | 46 => 207 | 119 => 215 | 139 => 218 | 138 => 217 | 146 => 219 | 51 => 211 | n => n, fun | 1 => 0 | 3 => 2 | 4 => 3 | n => n⟩
theorem Tryz.lays146 : Go.Proofs.Lays.n146 Tryz.prog Tryz.lays146_ren := {
 mixed := by kernel_rfl
 f138 := Tryz.func181.trans (congrArg some (by kernel_rfl))
 f143 := Tryz.func182.trans (congrArg some (by kernel_rfl))
 f146 := Tryz.func132.trans (congrArg some (by kernel_rfl))
 f195 := Tryz.func192.trans (congrArg some (by kernel_rfl))
 f197 := Tryz.func193.trans (congrArg some (by kernel_rfl))
 f217 := Tryz.func202.trans (congrArg some (by kernel_rfl))
 f218 := Tryz.func194.trans (congrArg some (by kernel_rfl))
 f219 := Tryz.func195.trans (congrArg some (by kernel_rfl))
 f221 := Tryz.func165.trans (congrArg some (by kernel_rfl))
 f224 := Tryz.func204.trans (congrArg some (by kernel_rfl))
 f225 := Tryz.func203.trans (congrArg some (by kernel_rfl))
 f260 := Tryz.func201.trans (congrArg some (by kernel_rfl))
 f266 := Tryz.func212.trans (congrArg some (by kernel_rfl))
 f267 := Tryz.func205.trans (congrArg some (by kernel_rfl))
 f268 := Tryz.func180.trans (congrArg some (by kernel_rfl))
 f314 := Tryz.func213.trans (congrArg some (by kernel_rfl))
 t0 := Tryz.underlying0
 a0 := Tryz.isAgg0
 z0 := Tryz.sizeOf0
 v0 := Tryz.zeroValue0
 t3 := Tryz.underlying3
 a3 := Tryz.isAgg3
 z3 := Tryz.sizeOf3
 v3 := Tryz.zeroValue3
 t4 := Tryz.underlying4
 a4 := Tryz.isAgg4
 z4 := Tryz.sizeOf4
 v4 := Tryz.zeroValue4
 t5 := Tryz.underlying5
 a5 := Tryz.isAgg5
 z5 := Tryz.sizeOf5
 v5 := Tryz.zeroValue5
 t9 := Tryz.underlying9
 a9 := Tryz.isAgg9
 z9 := Tryz.sizeOf9
 v9 := Tryz.zeroValue9
 t21 := Tryz.underlying21
 a21 := Tryz.isAgg21
 z21 := Tryz.sizeOf21
 v21 := Tryz.zeroValue21
 t31 := Tryz.underlying44
 a31 := Tryz.isAgg44
 z31 := Tryz.sizeOf44
 v31 := Tryz.zeroValue44
 t46 := Tryz.underlying207
 a46 := Tryz.isAgg207
 z46 := Tryz.sizeOf207
 v46 := Tryz.zeroValue207
 t51 := Tryz.underlying211
 a51 := Tryz.isAgg211
 z51 := Tryz.sizeOf211
 v51 := Tryz.zeroValue211
 t105 := Tryz.underlying197
 a105 := Tryz.isAgg197
 z105 := Tryz.sizeOf197
 v105 := Tryz.zeroValue197
 t119 := Tryz.underlying215
 a119 := Tryz.isAgg215
 z119 := Tryz.sizeOf215
 t138 := Tryz.underlying217
 a138 := Tryz.isAgg217
 z138 := Tryz.sizeOf217
 v138 := Tryz.zeroValue217
 t139 := Tryz.underlying218
 a139 := Tryz.isAgg218
 z139 := Tryz.sizeOf218
 v139 := Tryz.zeroValue218
 t146 := Tryz.underlying219
 a146 := Tryz.isAgg219
 z146 := Tryz.sizeOf219
 v146 := Tryz.zeroValue219
 g1 := by kernel_rfl
 g3 := by kernel_rfl
 g4 := by kernel_rfl }
def Tryz.lays155_ren : Go.Shelf.Ren := ⟨fun | 155 => 206 | 154 => 214 | 138 => 181 | 165 => 217 | 143 => 182 | 166 => 218 | 197 => 193 | 169 => 219 | 195 => 192 | 218 => 194 | 240 => 220 | 241 => 221 | 219 => 195 | 260 => 201 | 276 => 222 | 277 => 223 | 217 => 202 | 225 => 203 | 224 => 204 | 267 => 205 | 266 => 212 | 314 => 213 | n => n, fun | 9 => 9 | 3 => 3 | 4 => 4 | 72 => 225 | 0 => 0 | 76 => 228 | 105 => 197 | 21 => 21 | 5 => 5 | 70 => 223 | 20 => 20 | 37 => 140 | 75 => 227 | 127 => 233 | 164 => 234 | 46 => 207 | 119 => 215 | 139 => 218 | 138 => 217 | 146 => 219 | 51 => 211 | 80 => 230 | n => n, fun | 1 => 0 | 3 => 2 | 4 => 3 | n => n⟩
theorem Tryz.lays155 : Go.Proofs.Lays.n155 Tryz.prog Tryz.lays155_ren := {
 mixed := by kernel_rfl
 f138 := Tryz.func181.trans (congrArg some (by kernel_rfl))
 f143 := Tryz.func182.trans (congrArg some (by kernel_rfl))
 f154 := Tryz.func214.trans (congrArg some (by kernel_rfl))
 f155 := Tryz.func206.trans (congrArg some (by kernel_rfl))
 f165 := Tryz.func217.trans (congrArg some (by kernel_rfl))
 f166 := Tryz.func218.trans (congrArg some (by kernel_rfl))
 f169 := Tryz.func219.trans (congrArg some (by kernel_rfl))
 f195 := Tryz.func192.trans (congrArg some (by kernel_rfl))
 f197 := Tryz.func193.trans (congrArg some (by kernel_rfl))
 f217 := Tryz.func202.trans (congrArg some (by kernel_rfl))
 f218 := Tryz.func194.trans (congrArg some (by kernel_rfl))
 f219 := Tryz.func195.trans (congrArg some (by kernel_rfl))
 f224 := Tryz.func204.trans (congrArg some (by kernel_rfl))
 f225 := Tryz.func203.trans (congrArg some (by kernel_rfl))
 f240 := Tryz.func220.trans (congrArg some (by kernel_rfl))
 f241 := Tryz.func221.trans (congrArg some (by kernel_rfl))
 f260 := Tryz.func201.trans (congrArg some (by kernel_rfl))
 f266 := Tryz.func212.trans (congrArg some (by kernel_rfl))
 f267 := Tryz.func205.trans (congrArg some (by kernel_rfl))
 f276 := Tryz.func222.trans (congrArg some (by kernel_rfl))
 f277 := Tryz.func223.trans (congrArg some (by kernel_rfl))
 f314 := Tryz.func213.trans (congrArg some (by kernel_rfl))
 t0 := Tryz.underlying0
 a0 := Tryz.isAgg0
 z0 := Tryz.sizeOf0
 v0 := Tryz.zeroValue0
 t3 := Tryz.underlying3
 a3 := Tryz.isAgg3
 z3 := Tryz.sizeOf3
 v3 := Tryz.zeroValue3
 t4 := Tryz.underlying4
 a4 := Tryz.isAgg4
 z4 := Tryz.sizeOf4
 v4 := Tryz.zeroValue4
 t5 := Tryz.underlying5
 a5 := Tryz.isAgg5
 z5 := Tryz.sizeOf5
 v5 := Tryz.zeroValue5
 t9 := Tryz.underlying9
 a9 := Tryz.isAgg9
 z9 := Tryz.sizeOf9
 v9 := Tryz.zeroValue9
 t20 := Tryz.underlying20
 a20 := Tryz.isAgg20
 z20 := Tryz.sizeOf20
 v20 := Tryz.zeroValue20
 t21 := Tryz.underlying21
 a21 := Tryz.isAgg21
 z21 := Tryz.sizeOf21
 v21 := Tryz.zeroValue21
 t37 := Tryz.underlying140
 a37 := Tryz.isAgg140
 z37 := Tryz.sizeOf140
 v37 := Tryz.zeroValue140
 t46 := Tryz.underlying207
 a46 := Tryz.isAgg207
 z46 := Tryz.sizeOf207
 v46 := Tryz.zeroValue207
 t51 := Tryz.underlying211
 a51 := Tryz.isAgg211
 z51 := Tryz.sizeOf211
 v51 := Tryz.zeroValue211
 t70 := Tryz.underlying223
 a70 := Tryz.isAgg223
 z70 := Tryz.sizeOf223
 v70 := Tryz.zeroValue223
 t72 := Tryz.underlying225
 a72 := Tryz.isAgg225
 z72 := Tryz.sizeOf225
 v72 := Tryz.zeroValue225
 t75 := Tryz.underlying227
 a75 := Tryz.isAgg227
 z75 := Tryz.sizeOf227
 v75 := Tryz.zeroValue227
 t76 := Tryz.underlying228
 a76 := Tryz.isAgg228
 z76 := Tryz.sizeOf228
 v76 := Tryz.zeroValue228
 t105 := Tryz.underlying197
 a105 := Tryz.isAgg197
 z105 := Tryz.sizeOf197
 v105 := Tryz.zeroValue197
 t119 := Tryz.underlying215
 a119 := Tryz.isAgg215
 z119 := Tryz.sizeOf215
 t127 := Tryz.underlying233
 a127 := Tryz.isAgg233
 z127 := Tryz.sizeOf233
 v127 := Tryz.zeroValue233
 t138 := Tryz.underlying217
 a138 := Tryz.isAgg217
 z138 := Tryz.sizeOf217
 v138 := Tryz.zeroValue217
 t139 := Tryz.underlying218
 a139 := Tryz.isAgg218
 z139 := Tryz.sizeOf218
 v139 := Tryz.zeroValue218
 t146 := Tryz.underlying219
 a146 := Tryz.isAgg219
 z146 := Tryz.sizeOf219
 v146 := Tryz.zeroValue219
 t164 := Tryz.underlying234
 a164 := Tryz.isAgg234
 z164 := Tryz.sizeOf234
 v164 := Tryz.zeroValue234
 g1 := by kernel_rfl
 g3 := by kernel_rfl
 g4 := by kernel_rfl }
theorem Tryz.Builder_Extra_155 : Builder.Extra Tryz.prog Tryz.lays155_ren := {
 sizeBuilder := by kernel_rfl
 liesBuilder := by kernel_rfl
 t5 := Tryz.underlying5
 a5 := Tryz.isAgg5
 z5 := Tryz.sizeOf5
 v5 := Tryz.zeroValue5
 infoByte := by kernel_rfl
 cellsByte := by kernel_rfl
 sizeByte := by kernel_rfl
 neB5 := by decide }
def Tryz.laysM171_ren : Go.Shelf.Ren := ⟨fun | 171 => 138 | 243 => 170 | 246 => 187 | 283 => 197 | 284 => 198 | 285 => 199 | 286 => 200 | 129 => 208 | 317 => 207 | 318 => 209 | 319 => 210 | 320 => 211 | 337 => 215 | 338 => 216 | n => n, fun | 3 => 3 | 9 => 9 | 2 => 2 | 4 => 4 | 171 => 201 | 0 => 0 | 53 => 202 | 37 => 140 | 5 => 5 | 173 => 205 | 212 => 210 | 51 => 211 | 20 => 20 | 213 => 212 | 46 => 207 | 232 => 231 | 233 => 232 | n => n, fun | 17 => 1 | 18 => 4 | 19 => 5 | n => n⟩
theorem Tryz.laysM171 : Go.Proofs.LaysM.n171 Tryz.prog Tryz.laysM171_ren := {
 mixed := by kernel_rfl
 f129 := Tryz.func208.trans (congrArg some (by kernel_rfl))
 f171 := Tryz.func138.trans (congrArg some (by kernel_rfl))
 f243 := Tryz.func170.trans (congrArg some (by kernel_rfl))
 f246 := Tryz.func187.trans (congrArg some (by kernel_rfl))
 f283 := Tryz.func197.trans (congrArg some (by kernel_rfl))
 f284 := Tryz.func198.trans (congrArg some (by kernel_rfl))
 f285 := Tryz.func199.trans (congrArg some (by kernel_rfl))
 f286 := Tryz.func200.trans (congrArg some (by kernel_rfl))
 f317 := Tryz.func207.trans (congrArg some (by kernel_rfl))
 f318 := Tryz.func209.trans (congrArg some (by kernel_rfl))
 f319 := Tryz.func210.trans (congrArg some (by kernel_rfl))
 f320 := Tryz.func211.trans (congrArg some (by kernel_rfl))
 f337 := Tryz.func215.trans (congrArg some (by kernel_rfl))
 f338 := Tryz.func216.trans (congrArg some (by kernel_rfl))
 t0 := Tryz.underlying0
 a0 := Tryz.isAgg0
 z0 := Tryz.sizeOf0
 v0 := Tryz.zeroValue0
 t2 := Tryz.underlying2
 a2 := Tryz.isAgg2
 z2 := Tryz.sizeOf2
 v2 := Tryz.zeroValue2
 t3 := Tryz.underlying3
 a3 := Tryz.isAgg3
 z3 := Tryz.sizeOf3
 v3 := Tryz.zeroValue3
 t4 := Tryz.underlying4
 a4 := Tryz.isAgg4
 z4 := Tryz.sizeOf4
 v4 := Tryz.zeroValue4
 t5 := Tryz.underlying5
 a5 := Tryz.isAgg5
 z5 := Tryz.sizeOf5
 v5 := Tryz.zeroValue5
 t9 := Tryz.underlying9
 a9 := Tryz.isAgg9
 z9 := Tryz.sizeOf9
 v9 := Tryz.zeroValue9
 t20 := Tryz.underlying20
 a20 := Tryz.isAgg20
 z20 := Tryz.sizeOf20
 v20 := Tryz.zeroValue20
 t37 := Tryz.underlying140
 a37 := Tryz.isAgg140
 z37 := Tryz.sizeOf140
 v37 := Tryz.zeroValue140
 t46 := Tryz.underlying207
 a46 := Tryz.isAgg207
 z46 := Tryz.sizeOf207
 v46 := Tryz.zeroValue207
 t51 := Tryz.underlying211
 a51 := Tryz.isAgg211
 z51 := Tryz.sizeOf211
 v51 := Tryz.zeroValue211
 t53 := Tryz.underlying202
 a53 := Tryz.isAgg202
 z53 := Tryz.sizeOf202
 v53 := Tryz.zeroValue202
 t171 := Tryz.underlying201
 a171 := Tryz.isAgg201
 z171 := Tryz.sizeOf201
 v171 := Tryz.zeroValue201
 t173 := Tryz.underlying205
 a173 := Tryz.isAgg205
 z173 := Tryz.sizeOf205
 v173 := Tryz.zeroValue205
 t212 := Tryz.underlying210
 a212 := Tryz.isAgg210
 z212 := Tryz.sizeOf210
 v212 := Tryz.zeroValue210
 t213 := Tryz.underlying212
 a213 := Tryz.isAgg212
 z213 := Tryz.sizeOf212
 t232 := Tryz.underlying231
 a232 := Tryz.isAgg231
 z232 := Tryz.sizeOf231
 v232 := Tryz.zeroValue231
 t233 := Tryz.underlying232
 a233 := Tryz.isAgg232
 z233 := Tryz.sizeOf232
 v233 := Tryz.zeroValue232
 g17 := by kernel_rfl
 g18 := by kernel_rfl
 g19 := by kernel_rfl
 i0 := by kernel_rfl
 i2 := by kernel_rfl
 i3 := by kernel_rfl
 i4 := by kernel_rfl
 i5 := by kernel_rfl
 i9 := by kernel_rfl
 i20 := by kernel_rfl
 i37 := by kernel_rfl
 i46 := by kernel_rfl
 i51 := by kernel_rfl
 i53 := by kernel_rfl
 i171 := by kernel_rfl
 i173 := by kernel_rfl
 i212 := by kernel_rfl
 i232 := by kernel_rfl
 i233 := by kernel_rfl
 m17 := by kernel_rfl
 m18 := by kernel_rfl
 m19 := by kernel_rfl }
end Go.Proofs.YthhkmmcgjnecbaaGreatDoor
set_option maxRecDepth 8000
namespace Go.Proofs.YthhkmmcgjnecbaaGreatDoor
open Go Go.Dv
open Go.Vc (D shrI xorI andI and255)
open Go.RowKit (Below)
theorem gl_pow {w : World} {own : Nat → Prop} (h : GlW w own) : ∃ ty lh, w.heap[1]? = some (.cells (Lib.pow10Tab.map fun z => Value.int .u64 z).toArray ty lh) := by
 obtain ⟨_, cs, ty, lh, h2, h3⟩ := h _ (List.mem_cons_self)
 exact ⟨ty, lh, by rw [← h3]; exact h2⟩
theorem gl_max {w : World} {own : Nat → Prop} (h : GlW w own) : ∃ m, w.cell? ⟨0, 0, none⟩ = some (.int .i64 m) := by
 obtain ⟨_, cs, ty, lh, h2, m, h3⟩ := h _ (List.mem_cons_of_mem _ (List.mem_cons_self))
 exact ⟨m, by simp only [World.cell?, h2]; exact h3⟩
theorem below_grow (w : World) (k : Nat) (os : Array Obj) : Below w.heap.size w (Go.Sort.grow (w.drewN k) os) :=
 ⟨rfl, rfl, rfl, by simp [Go.Sort.grow, World.drewN], fun i hi => by simp [Go.Sort.grow, World.drewN, Array.getElem?_append, hi]⟩
def itoaB (n : Int) : ByteArray := ⟨(Lib.itoa n).toArray⟩
theorem decDigits_len (u : Nat) : ∀ k, u < 10 ^ (k + 1) → (Lib.decDigits u).length ≤ k + 1 := by
 intro k
 induction k generalizing u with
 | zero => intro h; rw [Lib.decDigits, dif_pos (by simpa using h)]; simp
 | succ k ih =>
  intro h
  rw [Lib.decDigits]
  split
  ·simp
  ·have := ih (u / 10) (by rw [Nat.pow_succ] at h; omega)
   simp only [List.length_append, List.length_singleton]; omega
theorem itoa_len {n : Int} (h0 : -9223372036854775808 ≤ n) (h1 : n ≤ 9223372036854775807) : (Lib.itoa n).length ≤ 20 := by
 unfold Lib.itoa
 split
 ·have := decDigits_len n.natAbs 18 (by omega)
  simp only [List.length_cons]; omega
 ·have := decDigits_len n.toNat 18 (by omega)
  omega
theorem itoaB_size {n : Int} (h0 : -9223372036854775808 ≤ n) (h1 : n ≤ 9223372036854775807) : (itoaB n).size ≤ 20 := by
 show (List.toArray _).size ≤ 20
 simpa using itoa_len h0 h1
theorem Itoa_d (n : Int) (h0 : -9223372036854775808 ≤ n) (h1 : n ≤ 9223372036854775807) : Cl Tryz.prog 138 [vi n] [] fun r _ => r = vs (itoaB n) :=
 Cl.ofVals (by kernel_rfl) [.int .i64 n] fun w hg => by
  obtain ⟨ty, lh, hp⟩ := gl_pow hg
  refine (Any.strconv_Itoa Tryz.laysM171 n h0 h1 w ?_).mono ?_
  ·unfold Lib.TabIs World.var?
   rw [show Tryz.prog.globalNamed _ = some 1 by kernel_rfl]
   simp only [Option.bind_some, hp]
  ·rintro e w' ⟨rfl, k, os, rfl⟩
   have := itoaB_size h0 h1
   exact ⟨_, rfl, by show ByteArray.size _ ≤ maxLen; simp only [maxLen]; exact Nat.le_trans this (by decide), rfl, below_grow w k os⟩
end Go.Proofs.YthhkmmcgjnecbaaGreatDoor
set_option maxRecDepth 8000
namespace Go.Proofs.YthhkmmcgjnecbaaGreatDoor
open Go Go.Dv
open Go.Vc (D shrI xorI andI and255)
open Go.RowKit (Below)
open Go.Vc (CellF RowF ValsF okV)
theorem strs_vals (w : World) : ∀ l : List ByteArray, (∀ s ∈ l, s.size ≤ maxLen) → ValsF w (l.flatMap srow) (l.map Value.string) []
 | [], _ => rfl
 | s :: r, h => ⟨[], [], ⟨rfl, rfl, h s (by simp)⟩, strs_vals w r fun x hx => h x (by simp [hx]), rfl⟩
theorem strs_cell (w w' : World) (ty : TypeId) (l : List ByteArray) (hl : l ≠ []) (hs : ∀ s ∈ l, s.size ≤ maxLen) (hn : l.length ≤ maxLen) (β : Nat → Option Nat) (hw : w'.heap[w.heap.size]? = some (.cells (l.map Value.string).toArray ty (0, 0))) :
 RelS Tryz.prog w' β (fun b => w.heap.size ≤ b) (.c (.sl l.length (l.flatMap srow) none)) (.slice (some ⟨w.heap.size, 0, none⟩) l.length l.length) := by
 have hrow : RowF w' w.heap.size 0 (l.flatMap srow) [] := (strs_vals w' l hs).row fun j v hj => by
  rw [cell_of_row w' w.heap.size (0 + j) _ _ _ hw]; simpa using hj
 refine ⟨[w.heap.size], ⟨some ⟨w.heap.size, 0, none⟩, l.length, rfl, Nat.le_refl _, hn, (fun e => by cases e), .inr ⟨?_, w.heap.size, 0, [], rfl, hrow, rfl⟩⟩, (fun b hb => by simp at hb; omega), (fun _ e => by cases e)⟩
 cases l with
 | nil => exact absurd rfl hl
 | cons s r => simp [srow]
end Go.Proofs.YthhkmmcgjnecbaaGreatDoor
set_option maxRecDepth 8000
namespace Go.Proofs.YthhkmmcgjnecbaaGreatDoor
open Go Go.Dv
open Go.Vc (D shrI xorI andI and255)
def partB (b : Int) : Bool := letB b || decide (48 ≤ b ∧ b ≤ 57)
def plainN (s : ByteArray) : Bool := decide (1 ≤ s.size ∧ s.size ≤ 20) && (!decide (48 ≤ ((s.data.toList.headD 0).toNat : Int) ∧ ((s.data.toList.headD 0).toNat : Int) ≤ 57) && (decide (key s = 0) && s.data.toList.all fun b => partB b.toNat))
def quoteL (c : UInt8) (l : List UInt8) : List UInt8 := l.flatMap fun b => if b = c then [c, c] else [b]
def quoteB (c : UInt8) (s : ByteArray) : ByteArray := ⟨(c :: (quoteL c s.data.toList ++ [c])).toArray⟩
theorem quoteL_len (c : UInt8) (l : List UInt8) : (quoteL c l).length ≤ 2 * l.length := by
 induction l with
 | nil => simp [quoteL]
 | cons b r ih =>
  unfold quoteL at *
  rw [List.flatMap_cons, List.length_append, List.length_cons]
  split <;> simp only [List.length_cons, List.length_nil] <;> omega
end Go.Proofs.YthhkmmcgjnecbaaGreatDoor
set_option maxRecDepth 8000
namespace Go.Proofs.YthhkmmcgjnecbaaGreatDoor
open Go Go.Dv
open Go.Vc (D shrI xorI andI and255)
open Go.RowKit (Below)
open Go.Vc (okV)
theorem index_none1 (c : UInt8) : ∀ l : List UInt8, c ∉ l → Lib.index l [c] = -1
 | [], _ => rfl
 | b :: l, h => by
  simp only [List.mem_cons, not_or] at h
  have ih := index_none1 c l h.2
  have hb : ([c] : List UInt8).isPrefixOf (b :: l) = false := by simp [List.isPrefixOf, h.1]
  simp [Lib.index, hb, ih]
theorem index_at1 (c : UInt8) : ∀ a r : List UInt8, c ∉ a → Lib.index (a ++ c :: r) [c] = a.length
 | [], r, _ => by simp [Lib.index, List.isPrefixOf]
 | b :: a, r, h => by
  simp only [List.mem_cons, not_or] at h
  have ih := index_at1 c a r h.2
  have hb : ([c] : List UInt8).isPrefixOf (b :: (a ++ c :: r)) = false := by simp [List.isPrefixOf, h.1]
  have hne : ¬ ((a.length : Int) = -1) := by omega
  simp [Lib.index, hb, ih, hne]
theorem quoteL_none {c : UInt8} : ∀ {l : List UInt8}, c ∉ l → quoteL c l = l
 | [], _ => rfl
 | b :: l, h => by
  simp only [List.mem_cons, not_or] at h
  have ih := quoteL_none h.2
  unfold quoteL at *
  rw [List.flatMap_cons, ih, if_neg (fun e => h.1 e.symm)]; rfl
theorem replaceK_one (c : UInt8) : ∀ (n : Nat) (l : List UInt8), l.length ≤ n → Lib.replaceK [c] [c, c] (Lib.count l [c]) l = quoteL c l := by
 intro n
 induction n with
 | zero =>
  intro l h
  have : l = [] := List.eq_nil_of_length_eq_zero (by omega)
  subst this
  rw [Lib.count_miss (index_none1 c [] (by simp))]; rfl
 | succ n ih =>
  intro l h
  by_cases hc : c ∈ l
  ·obtain ⟨a, r, rfl, ha⟩ := List.eq_append_cons_of_mem hc
   have hi := index_at1 c a r ha
   have hdrop : (a ++ c :: r).drop (a.length + [c].length) = r := by
    rw [show a ++ c :: r = (a ++ [c]) ++ r by simp, List.drop_left' (by simp)]
   rw [Lib.count_hit (by simp) hi, Nat.add_comm, Lib.replaceK_hit _ _ _ _ _ hi, hdrop, ih r (by simp at h; omega), List.take_left' rfl]
   unfold quoteL
   rw [List.flatMap_append, List.flatMap_cons, if_pos rfl]
   have := quoteL_none ha
   unfold quoteL at this
   rw [this]; simp
  ·rw [Lib.count_miss (index_none1 c l hc), quoteL_none hc]; rfl
theorem replaceAll_one (c : UInt8) (l : List UInt8) : Lib.replaceAll l [c] [c, c] = quoteL c l := by
 have hne : ([c] == [c, c]) = false := by simp
 unfold Lib.replaceAll Lib.replace Lib.replaceNum
 rw [hne, if_neg (by simp), if_pos (by simp)]
 exact replaceK_one c l.length l (Nat.le_refl _)
theorem data_append (a b : ByteArray) : (a ++ b).data.toList = a.data.toList ++ b.data.toList := by rw [ByteArray.data_append, Array.toList_append]
def one (c : UInt8) : ByteArray := ⟨#[c]⟩
theorem two_list (c : UInt8) : (one c ++ one c).data.toList = [c, c] := by rw [data_append]; rfl
theorem ReplaceAll_d (s : ByteArray) (c : UInt8) (hs : s.size ≤ 1048576) : Cl Tryz.prog 206 [vs s, vs (one c), vs (one c ++ one c)] [] fun r _ => r = vs ⟨(quoteL c s.data.toList).toArray⟩ :=
 Cl.ofVals (by kernel_rfl) [.string s, .string (one c), .string (one c ++ one c)] fun w hg => by
  obtain ⟨m, hm⟩ := gl_max hg
  have h2 : (one c ++ one c).size = 2 := by rw [← size_toList, two_list]; rfl
  have hcnt : Lib.countB s (one c) ≤ s.size := Lib.countB_le (one c) (Nat.le_refl 1) s.size s (Nat.le_refl _)
  refine (Any.strings_ReplaceAll Tryz.lays155 Tryz.Builder_Extra_155 s (one c) (one c ++ one c) m w (by omega) hm (Nat.le_refl 1) (by rw [h2]; omega)).mono ?_
  rintro e w' ⟨rfl, hb⟩
  rw [two_list, show (one c).data.toList = [c] from rfl, replaceAll_one]
  refine ⟨_, rfl, ?_, rfl, hb⟩
  show (List.toArray _).size ≤ maxLen
  have := quoteL_len c s.data.toList
  rw [size_toList] at this
  simp only [List.size_toArray, maxLen]; omega
theorem ba_ext {a b : ByteArray} (h : a.data.toList = b.data.toList) : a = b := by
 obtain ⟨⟨x⟩⟩ := a; obtain ⟨⟨y⟩⟩ := b
 simp only at h; rw [h]
theorem size_app (a b : ByteArray) : (a ++ b).size = a.size + b.size := by rw [← size_toList, data_append, List.length_append, size_toList, size_toList]
theorem quoted_d (s : ByteArray) (c : UInt8) (hs : s.size ≤ 1048576) : Cl Tryz.prog 196 [vs s, vs (one c)] [] fun r _ => r = vs (quoteB c s) := by
 have h1 : (one c).size = 1 := rfl
 refine cl_of_d follows_mixed false Tryz.func196 rfl (by kernel_rfl) ?_
 simp only [Tryz.f196, tt, seval]
 rw [pu_sadd (by omega)]
 refine call0 (ReplaceAll_d s c hs) ?_ ?_ ?_
 ·decide
 ·simp only [tt, seval]
 rintro r rfl
 simp only [tt, seval]
 have hq : (⟨(quoteL c s.data.toList).toArray⟩ : ByteArray).size ≤ 2 * s.size := by
  have := quoteL_len c s.data.toList
  rw [size_toList] at this
  show (List.toArray _).size ≤ _
  simpa using this
 rw [pu_sadd (by omega)]
 simp only [tt, seval]
 rw [pu_sadd (by rw [size_app]; omega)]
 simp only [tt, seval]
 exact ⟨_, _, vsE (ba_ext (by rw [data_append, data_append]; simp [one, quoteB])), end0 rfl⟩
def nameT (s : ByteArray) : ByteArray := if 1 ≤ s.size ∧ s.size ≤ 20 then (if plainN s = true then s else quoteB 34 s) else ⟨#[]⟩
theorem iQuoteText_d (s : ByteArray) (hs : s.size ≤ 1048576) : Cl Tryz.prog 184 [vs s] [] fun r _ => r = vs (quoteB 39 s) := by
 refine cl_of_d follows_mixed false Tryz.func184 rfl (by kernel_rfl) ?_
 simp only [Tryz.f184, tt, seval]
 refine call0 (quoted_d s 39 hs) ?_ ?_ ?_
 ·decide
 ·simp only [tt, seval, one]
 rintro r rfl
 simp only [tt, seval, one]
 exact ⟨_, _, rfl, end0 rfl⟩
end Go.Proofs.YthhkmmcgjnecbaaGreatDoor
set_option maxRecDepth 8000
namespace Go.Proofs.YthhkmmcgjnecbaaGreatDoor
open Go Go.Dv
open Go.Vc (D shrI xorI andI and255)
def valOk (v : Val) : Bool :=
 if v.kind = 0 then decide (v.num = 0) && decide (v.text = ⟨#[]⟩) else if v.kind = 1 then decide (v.text = ⟨#[]⟩)
 else if v.kind = 2 then decide (v.num = 0) && decide ((v.text.size : Int) ≤ 200) else if v.kind = 3 then decide (0 ≤ v.num ∧ v.num ≤ 1) && decide (v.text = ⟨#[]⟩) else false
theorem ValueOk_d (v : Val) : Cl Tryz.prog 191 [.ag (csOf v.row)] [] fun r _ => r = vb (valOk v) := by
 rw [Val.row]
 refine cl_of_d follows_mixed false Tryz.func191 rfl (by kernel_rfl) ?_
 simp only [Tryz.f191, tt, seval]
 refine And.intro (fun h0 => ?_) (fun h0 => ?_)
 ·refine And.intro (fun h => ?_) (fun h => ?_) <;> simp only [tt, seval]
  ·exact ⟨_, _, vbE (by rw [valOk, if_pos h0, h]; rfl), end0 rfl⟩
  ·exact ⟨_, _, vbE (by rw [valOk, if_pos h0, h]; rfl), end0 rfl⟩
 ·try simp only [tt, seval]
  refine And.intro (fun h1 => ?_) (fun h1 => ?_)
  ·exact ⟨_, _, vbE (by rw [valOk, if_neg h0, if_pos h1]), end0 rfl⟩
  ·try simp only [tt, seval]
   refine And.intro (fun h2 => ?_) (fun h2 => ?_)
   ·refine And.intro (fun h => ?_) (fun h => ?_) <;> simp only [tt, seval]
    ·exact fun _ => ⟨_, _, vbE (by rw [valOk, if_neg h0, if_neg h1, if_pos h2, h]; rfl), end0 rfl⟩
    ·exact ⟨_, _, vbE (by rw [valOk, if_neg h0, if_neg h1, if_pos h2, h]; rfl), end0 rfl⟩
   ·try simp only [tt, seval]
    refine And.intro (fun h3 => ?_) (fun h3 => ?_)
    ·try simp only [tt, seval]
     refine call0 (l1In_d v.num 0 1) ?_ ?_ ?_
     ·decide
     ·simp only [tt, seval]
     rintro r rfl
     simp only [tt, seval]
     cases hn : decide ((0 : Int) ≤ v.num ∧ v.num ≤ 1) <;> simp only [tt, seval, hn]
     ·exact ⟨_, _, vbE (by rw [valOk, if_neg h0, if_neg h1, if_neg h2, if_pos h3, hn]; rfl), end0 rfl⟩
     ·exact ⟨_, _, vbE (by rw [valOk, if_neg h0, if_neg h1, if_neg h2, if_pos h3, hn]; rfl), end0 rfl⟩
    ·exact ⟨_, _, vbE (by rw [valOk, if_neg h0, if_neg h1, if_neg h2, if_neg h3]), end0 rfl⟩
theorem iValueOk_d (v : Val) : Cl Tryz.prog 183 [.ag (csOf v.row)] [] fun r _ => r = vb (valOk v) := by
 rw [Val.row]
 refine cl_of_d follows_mixed false Tryz.func183 rfl (by kernel_rfl) ?_
 simp only [Tryz.f183, tt, seval]
 refine And.intro (fun h0 => ?_) (fun h0 => ?_)
 ·refine And.intro (fun h => ?_) (fun h => ?_) <;> simp only [tt, seval]
  ·exact ⟨_, _, vbE (by rw [valOk, if_pos h0, h]; rfl), end0 rfl⟩
  ·exact ⟨_, _, vbE (by rw [valOk, if_pos h0, h]; rfl), end0 rfl⟩
 ·try simp only [tt, seval]
  refine And.intro (fun h1 => ?_) (fun h1 => ?_)
  ·exact ⟨_, _, vbE (by rw [valOk, if_neg h0, if_pos h1]), end0 rfl⟩
  ·try simp only [tt, seval]
   refine And.intro (fun h2 => ?_) (fun h2 => ?_)
   ·refine And.intro (fun h => ?_) (fun h => ?_) <;> simp only [tt, seval]
    ·exact fun _ => ⟨_, _, vbE (by rw [valOk, if_neg h0, if_neg h1, if_pos h2, h]; rfl), end0 rfl⟩
    ·exact ⟨_, _, vbE (by rw [valOk, if_neg h0, if_neg h1, if_pos h2, h]; rfl), end0 rfl⟩
   ·try simp only [tt, seval]
    refine And.intro (fun h3 => ?_) (fun h3 => ?_)
    ·have fin : ∀ b : Bool, decide ((0 : Int) ≤ v.num ∧ v.num ≤ 1) = b → valOk v = (b && decide (v.text = ⟨#[]⟩)) := fun b hb => by rw [valOk, if_neg h0, if_neg h1, if_neg h2, if_pos h3, hb]
     by_cases hz : v.num = 0
     ·simp only [tt, seval, decide_eq_true hz]
      exact ⟨_, _, vbE (by rw [fin true (decide_eq_true (by omega))]; rfl), end0 rfl⟩
     ·simp only [tt, seval, decide_eq_false hz]
      by_cases ho : v.num = 1
      ·simp only [tt, seval, decide_eq_true ho]
       exact ⟨_, _, vbE (by rw [fin true (decide_eq_true (by omega))]; rfl), end0 rfl⟩
      ·simp only [tt, seval, decide_eq_false ho]
       exact ⟨_, _, vbE (by rw [fin false (decide_eq_false (by omega))]; rfl), end0 rfl⟩
    ·exact ⟨_, _, vbE (by rw [valOk, if_neg h0, if_neg h1, if_neg h2, if_neg h3]), end0 rfl⟩
def valT (v : Val) : ByteArray :=
 if valOk v = false then ⟨#[63]⟩ else if v.kind = 1 then itoaB v.num else if v.kind = 2 then quoteB 39 v.text else if v.kind = 3 then (if v.num = 1 then ⟨#[84, 82, 85, 69]⟩ else ⟨#[70, 65, 76, 83, 69]⟩) else ⟨#[78, 85, 76, 76]⟩
theorem iDigits_d (n : Int) (h0 : -9223372036854775808 ≤ n) (h1 : n ≤ 9223372036854775807) : Cl Tryz.prog 85 [vi n] [] fun r _ => r = vs (itoaB n) := by
 refine cl_of_d follows_mixed false Tryz.func85 rfl (by kernel_rfl) ?_
 simp only [Tryz.f85, tt, seval]
 refine call0 (Itoa_d n h0 h1) ?_ ?_ ?_
 ·decide
 ·simp only [tt, seval]
 rintro r rfl
 simp only [tt, seval]
 exact ⟨_, _, rfl, end0 rfl⟩
def sg (b : Bool) (k : Nat) : Int := if b = true then -(k : Int) else k
theorem sg_mod (b : Bool) (k : Nat) : (sg b k).tmod 10 = sg b (k % 10) := by
 unfold sg; split
 ·rw [Int.neg_tmod]; rfl
 ·rfl
theorem sg_div (b : Bool) (k : Nat) : (sg b k).tdiv 10 = sg b (k / 10) := by
 unfold sg; split
 ·rw [Int.neg_tdiv]; rfl
 ·rfl
theorem sg_zero (b : Bool) (k : Nat) : sg b k = 0 ↔ k = 0 := by unfold sg; split <;> omega
def digC (k : Nat) : UInt8 := UInt8.ofNat (48 + k % 10)
theorem digC_val (k : Nat) : ((digC k).toNat : Int) = 48 + (k % 10 : Nat) := by
 unfold digC
 rw [UInt8.toNat_ofNat']
 omega
theorem decDigits_step {k : Nat} (h : k / 10 ≠ 0) : Lib.decDigits k = Lib.decDigits (k / 10) ++ [digC k] := by
 rw [Lib.decDigits, dif_neg (by omega)]; rfl
theorem decDigits_small {k : Nat} (h : k / 10 = 0) : Lib.decDigits k = [digC k] := by
 have : k % 10 = k := by omega
 rw [Lib.decDigits, dif_pos (by omega), digC, this]
theorem Digits_d (n : Int) (h0 : -9223372036854775808 ≤ n) (h1 : n ≤ 9223372036854775807) : Cl Tryz.prog 67 [vi n] [] fun r _ => r = vs (itoaB n) := by
 obtain ⟨b, hb⟩ : ∃ b, b = decide (n < 0) := ⟨_, rfl⟩
 refine cl_of_d follows_mixed false Tryz.func67 rfl (by kernel_rfl) ?_
 simp only [Tryz.f67, tt, seval]
 refine And.intro (fun hz => ?_) (fun hz => ?_)
 ·subst hz
  exact ⟨_, _, vsE (show (⟨#[48]⟩ : ByteArray) = itoaB 0 by unfold itoaB Lib.itoa; rw [if_neg (by omega), Lib.decDigits, dif_pos (by decide)]; rfl), end0 rfl⟩
 ·rw [← hb]
  refine dLoop.intro (fun f L p => ∃ (k : Nat) (o : List UInt8), f 0 = vi (sg b k) ∧ f 4 = vs ⟨o.toArray⟩ ∧ k ≤ n.natAbs ∧ Lib.decDigits n.natAbs = (if k = 0 then o else Lib.decDigits k ++ o) ∧ L = [] ∧ p = none) (fun f _ _ => (ixS (f 0)).natAbs) [] none ⟨SubO.nil _, PoSub.none _, ?_⟩ ?_
  ·simp only [tt, seval]
   refine ⟨n.natAbs, [], viE ?_, rfl, Nat.le_refl _, ?_⟩
   ·rw [sg, hb]; simp only [decide_eq_true_eq]; split <;> omega
   ·rw [if_neg (by omega), List.append_nil]
  ·rintro g L p ⟨k, o, hk, ho, hkn, hd, rfl, rfl⟩
   simp only [tt, seval] at hk ho
   have hol : o.length ≤ 20 := by
    have h2 := itoa_len h0 h1
    have h3 : (Lib.decDigits n.natAbs).length ≤ 20 := decDigits_len n.natAbs 19 (by omega)
    rw [hd] at h3
    split at h3
    ·exact h3
    ·rw [List.length_append] at h3; omega
   simp only [tt, seval, hk, ho, sg_mod, sg_div]
   refine And.intro (fun hne => ?_) (fun heq => ?_)
   ·have hk0 : k ≠ 0 := by
     simp only [Bool.not_eq_true', decide_eq_false_iff_not, sg_zero] at hne; exact hne
    have hdv := digC_val k
    refine And.intro (fun hneg => ?_) (fun hpos => ?_)
    ·have hs : sg b (k % 10) = -((k % 10 : Nat) : Int) := by
      unfold sg at hneg ⊢
      split at hneg
      ·rename_i h; rw [if_pos h]
      ·omega
     have hval : IntKind.u8.wrap (IntKind.i64.wrap (48 + IntKind.i64.wrap (0 - sg b (k % 10)))) = ((digC k).toNat : Int) := by
      rw [hs, wrap_id (n := 0 - -((k % 10 : Nat) : Int)) (by omega) (by omega), wrap_id (by omega) (by omega), IntWalk.u8_in _ (by omega), hdv]; omega
     refine ⟨by kernel_rfl, by decide, [digC k], rfl, by rw [hval]; rfl, ?_⟩
     simp only [tt, seval, hk, ho, sg_div]
     have hsz : (⟨[digC k].toArray⟩ : ByteArray).size + (⟨o.toArray⟩ : ByteArray).size = 1 + o.length := by show (List.toArray _).size + (List.toArray _).size = _; simp
     rw [pu_sadd (by rw [hsz]; omega)]
     simp only [tt, seval, hk, ho, sg_div]
     rw [wrap_id (n := sg b (k / 10)) (by rw [sg]; split <;> omega) (by rw [sg]; split <;> omega)]
     refine ⟨[], none, SubO.nil _, PoSub.none _, ⟨k / 10, digC k :: o, rfl, vsE (ba_ext (by rw [data_append]; simp)), by omega, ?_, rfl, rfl⟩, ?_⟩
     ·rw [hd, if_neg hk0]
      split
      ·rename_i h; rw [decDigits_small h]; rfl
      ·rename_i h; rw [decDigits_step h]; simp
     ·simp only [ixS, sg]; split <;> omega
    ·have hs : sg b (k % 10) = ((k % 10 : Nat) : Int) := by
      unfold sg at hpos ⊢
      split at hpos
      ·rename_i h; rw [if_pos h]; omega
      ·rename_i h; rw [if_neg h]
     have hval : IntKind.u8.wrap (IntKind.i64.wrap (48 + sg b (k % 10))) = ((digC k).toNat : Int) := by
      rw [hs, wrap_id (by omega) (by omega), IntWalk.u8_in _ (by omega), hdv]
     refine ⟨by kernel_rfl, by decide, [digC k], rfl, by rw [hval]; rfl, ?_⟩
     simp only [tt, seval, hk, ho, sg_div]
     have hsz : (⟨[digC k].toArray⟩ : ByteArray).size + (⟨o.toArray⟩ : ByteArray).size = 1 + o.length := by show (List.toArray _).size + (List.toArray _).size = _; simp
     rw [pu_sadd (by rw [hsz]; omega)]
     simp only [tt, seval, hk, ho, sg_div]
     rw [wrap_id (n := sg b (k / 10)) (by rw [sg]; split <;> omega) (by rw [sg]; split <;> omega)]
     refine ⟨[], none, SubO.nil _, PoSub.none _, ⟨k / 10, digC k :: o, rfl, vsE (ba_ext (by rw [data_append]; simp)), by omega, ?_, rfl, rfl⟩, ?_⟩
     ·rw [hd, if_neg hk0]
      split
      ·rename_i h; rw [decDigits_small h]; rfl
      ·rename_i h; rw [decDigits_step h]; simp
     ·simp only [ixS, sg]; split <;> omega
   ·have hk0 : k = 0 := by
     simp only [Bool.not_eq_false', decide_eq_true_eq, sg_zero] at heq; exact heq
    subst hk0
    rw [if_pos rfl] at hd
    refine And.intro (fun hb1 => ?_) (fun hb0 => ?_)
    ·have hn : n < 0 := by rw [hb] at hb1; exact of_decide_eq_true hb1
     have hsz : (⟨#[45]⟩ : ByteArray).size + (⟨o.toArray⟩ : ByteArray).size = 1 + o.length := by show 1 + (List.toArray _).size = _; simp
     rw [pu_sadd (by rw [hsz]; omega)]
     simp only [tt, seval]
     exact ⟨_, _, vsE (ba_ext (by rw [data_append]; simp [itoaB, Lib.itoa, hn, hd])), end0 rfl⟩
    ·have hn : ¬ n < 0 := by rw [hb] at hb0; exact of_decide_eq_false hb0
     have e : n.toNat = n.natAbs := by omega
     exact ⟨_, _, vsE (ba_ext (by simp [itoaB, Lib.itoa, hn, e, hd])), end0 rfl⟩
theorem iValueText_d (v : Val) (h0 : -9223372036854775808 ≤ v.num) (h1 : v.num ≤ 9223372036854775807) (hs : v.text.size ≤ 1048576) : Cl Tryz.prog 166 [.ag (csOf v.row)] [] fun r _ => r = vs (valT v) := by
 rw [Val.row]
 refine cl_of_d follows_mixed false Tryz.func166 rfl (by kernel_rfl) ?_
 simp only [Tryz.f166, tt, seval]
 refine call0 (iValueOk_d v) ?_ ?_ ?_
 ·decide
 ·simp only [tt, seval, Val.row]
 rintro r rfl
 simp only [tt, seval, Val.row]
 refine And.intro (fun hk => ?_) (fun hk => ?_)
 ·exact ⟨_, _, vsE (by rw [valT, if_pos (by simpa only [Bool.not_eq_true'] using hk)]), end0 rfl⟩
 ·have hk' : ¬ valOk v = false := by simpa only [Bool.not_eq_false', Bool.not_eq_false] using hk
  refine And.intro (fun k1 => ?_) (fun k1 => ?_)
  ·skip
   refine call0 (iDigits_d v.num h0 h1) ?_ ?_ ?_
   ·decide
   ·simp only [tt, seval, Val.row]
   rintro r rfl
   simp only [tt, seval, Val.row]
   exact ⟨_, _, vsE (by rw [valT, if_neg hk', if_pos k1]), end0 rfl⟩
  ·try simp only [tt, seval]
   refine And.intro (fun k2 => ?_) (fun k2 => ?_)
   ·skip
    refine call0 (iQuoteText_d v.text hs) ?_ ?_ ?_
    ·decide
    ·simp only [tt, seval, Val.row]
    rintro r rfl
    simp only [tt, seval, Val.row]
    exact ⟨_, _, vsE (by rw [valT, if_neg hk', if_neg k1, if_pos k2]), end0 rfl⟩
   ·try simp only [tt, seval]
    refine And.intro (fun k3 => ?_) (fun k3 => ?_)
    ·try simp only [tt, seval]
     refine And.intro (fun k4 => ?_) (fun k4 => ?_)
     ·exact ⟨_, _, vsE (by rw [valT, if_neg hk', if_neg k1, if_neg k2, if_pos k3, if_pos k4]), end0 rfl⟩
     ·exact ⟨_, _, vsE (by rw [valT, if_neg hk', if_neg k1, if_neg k2, if_pos k3, if_neg k4]), end0 rfl⟩
    ·exact ⟨_, _, vsE (by rw [valT, if_neg hk', if_neg k1, if_neg k2, if_neg k3]), end0 rfl⟩
end Go.Proofs.YthhkmmcgjnecbaaGreatDoor
set_option maxRecDepth 8000
namespace Go.Proofs.YthhkmmcgjnecbaaGreatDoor
open Go Go.Dv
open Go.Vc (D shrI xorI andI and255)
open Go.Lib in
def numN (l : List UInt8) : Option Nat := match decFrom 0 l with
 | some m => if m < 9223372036854775808 ∧ decDigits m = l then some m else none
 | none => none
end Go.Proofs.YthhkmmcgjnecbaaGreatDoor
