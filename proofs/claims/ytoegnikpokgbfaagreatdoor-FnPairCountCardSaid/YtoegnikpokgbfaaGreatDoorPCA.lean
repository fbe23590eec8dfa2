/-
  Words, numbers and tokens; trees.
  Conditions: none.
-/
import Derived.Test.YtoegnikpokgbfaaGreatDoorPCTypes
import Derived.Shelf.Strings.BuilderF
import Derived.Shelf.LaysM
import Derived.Shelf.LaysC
import Derived.Shelf.Strconv.Itoa3
import Derived.Shelf.Strings.Split
import Derived.Shelf.Strings.Replace
import Derived.Shelf.Strconv.AtoiAll
import Derived.Test.YtoegnikpokgbfaaGreatDoorProg
import Derived.Lib.UnsafeStr
import Derived.Lib.AtoiTie
set_option linter.unusedVariables false
set_option linter.unusedSimpArgs false
set_option linter.unusedSectionVars false
set_option linter.unnecessarySimpa false
set_option maxRecDepth 8000
namespace Go.Proofs.YtoegnikpokgbfaaGreatDoor
open Go Go.Dv
open Go.Vc (D shrI xorI andI and255)
abbrev int (n : Int) : D := .lit (.int .i64 n)
abbrev bool (b : Bool) : D := .lit (.bool b)
abbrev str (s : ByteArray) : D := .lit (.string s)
abbrev vi (n : Int) : S := .c (.v (.int .i64 n))
abbrev vb (b : Bool) : S := .c (.v (.bool b))
abbrev vs (s : ByteArray) : S := .c (.v (.string s))
structure Val where
 kind : Int
 num : Int
 text : ByteArray
def Val.row (v : Val) : List D := [int v.kind, int v.num, str v.text]
structure Fa where
 code : Int
 name : ByteArray
def subL (l : Int) (s : Nat) : Int := if (s : Int) ≤ l then l - s else -1
def szVal (v : Val) : Nat := v.text.size
theorem subL_bounds {l : Int} {s : Nat} (h0 : 0 ≤ l) : -1 ≤ subL l s ∧ subL l s ≤ l := by unfold subL; split <;> omega
theorem subL_add {l : Int} {a b : Nat} (h : 0 ≤ subL l a) : subL l (a + b) = subL (subL l a) b := by
 unfold subL at *
 split at h
 ·rename_i h1
  rw [if_pos h1]
  by_cases h2 : ((a + b : Nat) : Int) ≤ l
  ·rw [if_pos h2, if_pos (by omega)]; omega
  ·rw [if_neg h2, if_neg (by omega)]
 ·omega
theorem subL_neg {l : Int} {a b : Nat} (h : subL l a < 0) (h0 : 0 ≤ l) : subL l (a + b) = -1 := by
 unfold subL at *
 split at h
 ·omega
 ·exact if_neg (by omega)
theorem viE {a b : Int} (h : a = b) : vi a = vi b := by rw [h]
theorem vsE {a b : ByteArray} (h : a = b) : vs a = vs b := by rw [h]
theorem vbE {a b : Bool} (h : a = b) : vb a = vb b := by rw [h]
theorem take_succ_sum {α : Type} (g : α → Nat) {l : List α} {i : Nat} (h : i < l.length) : ((l.take (i + 1)).map g).sum = ((l.take i).map g).sum + g l[i] := by
 rw [List.take_succ_eq_append_getElem h, List.map_append, List.sum_append]; simp only [List.map_cons, List.map_nil, List.sum_cons, List.sum_nil, Nat.add_zero]
theorem take_sum_le {α : Type} (g : α → Nat) (l : List α) (i : Nat) : ∃ r, (l.map g).sum = ((l.take i).map g).sum + r := ⟨((l.drop i).map g).sum, by
 conv => lhs; rw [← List.take_append_drop i l]
 rw [List.map_append, List.sum_append]⟩
theorem l1In_d (a l h : Int) : Cl Tryz.prog 132 [vi a, vi l, vi h] [] fun r _ => r = vb (decide (l ≤ a ∧ a ≤ h)) := by
 refine cl_of_d follows_mixed false Tryz.func132 rfl (by kernel_rfl) ?_
 simp only [Tryz.f132, tt, seval]
 all_goals repeat' first | (refine And.intro (fun h => ?_) (fun h => ?_) <;> try simp only [tt, seval]) | (intro _; try simp only [tt, seval])
 all_goals (refine ⟨_, [], vbE (Bool.eq_iff_iff.2 ?_), end0 rfl⟩)
 all_goals (simp only [decide_eq_true_eq, decide_eq_false_iff_not, Bool.false_eq_true, false_iff] at *)
 all_goals omega
def letB (a : Int) : Bool := decide (97 ≤ a ∧ a ≤ 122) || decide (65 ≤ a ∧ a ≤ 90) || decide (a = 95)
theorem NameOk_d (s : ByteArray) : Cl Tryz.prog 166 [vs s] [] fun r _ => r = vb (decide (1 ≤ s.size ∧ s.size ≤ 20)) := by
 refine cl_of_d follows_mixed false Tryz.func166 rfl (by kernel_rfl) ?_
 simp only [Tryz.f166, tt, seval]
 refine fun hs => ?_
 refine cZ (l1In_d s.size 1 20) (by decide) ?_ ?_ <;> simp only [tt, seval]
 exact ⟨_, _, vbE (by simp only [decide_eq_decide]; omega), end0 rfl⟩
theorem iNameOk_d (s : ByteArray) : Cl Tryz.prog 199 [vs s] [] fun r _ => r = vb (decide (1 ≤ s.size ∧ s.size ≤ 20)) := by
 refine cl_of_d follows_mixed false Tryz.func199 rfl (by kernel_rfl) ?_
 simp only [Tryz.f199, tt, seval]
 refine fun hs => ?_
 all_goals repeat' first | (refine And.intro (fun h => ?_) (fun h => ?_) <;> try simp only [tt, seval]) | (intro _; try simp only [tt, seval])
 all_goals (refine ⟨_, [], vbE (Bool.eq_iff_iff.2 ?_), end0 rfl⟩)
 all_goals (simp only [decide_eq_true_eq, decide_eq_false_iff_not, Bool.false_eq_true, false_iff] at *)
 all_goals omega
def up8 (b : UInt8) : UInt8 := if 97 ≤ b.toNat ∧ b.toNat ≤ 122 then b - 32 else b
def foldB (s : ByteArray) : ByteArray := ⟨(s.data.toList.map up8).toArray⟩
theorem size_toList (s : ByteArray) : s.data.toList.length = s.size := by simp
def srow (s : ByteArray) : List D := [str s]
theorem srow_len (n : ByteArray) : (srow n).length = 1 := rfl
theorem srow_ne (v : ByteArray) (r : List D) : srow v ++ r ≠ [] := fun h => by cases h
def kws : List ByteArray := [⟨#[83, 69, 76, 69, 67, 84]⟩, ⟨#[68, 73, 83, 84, 73, 78, 67, 84]⟩, ⟨#[70, 82, 79, 77]⟩, ⟨#[74, 79, 73, 78]⟩, ⟨#[79, 78]⟩, ⟨#[87, 72, 69, 82, 69]⟩, ⟨#[79, 82, 68, 69, 82]⟩, ⟨#[66, 89]⟩, ⟨#[65, 83, 67]⟩, ⟨#[68, 69, 83, 67]⟩, ⟨#[76, 73, 77, 73, 84]⟩, ⟨#[65, 83]⟩, ⟨#[65, 78, 68]⟩, ⟨#[79, 82]⟩, ⟨#[78, 79, 84]⟩, ⟨#[73, 83]⟩, ⟨#[73, 78]⟩, ⟨#[66, 69, 84, 87, 69, 69, 78]⟩, ⟨#[69, 88, 73, 83, 84, 83]⟩, ⟨#[78, 85, 76, 76]⟩, ⟨#[84, 82, 85, 69]⟩, ⟨#[70, 65, 76, 83, 69]⟩, ⟨#[73, 78, 83, 69, 82, 84]⟩, ⟨#[73, 78, 84, 79]⟩, ⟨#[86, 65, 76, 85, 69, 83]⟩, ⟨#[85, 80, 68, 65, 84, 69]⟩, ⟨#[83, 69, 84]⟩, ⟨#[68, 69, 76, 69, 84, 69]⟩]
def words : List ByteArray := ⟨#[]⟩ :: kws
theorem range29 : List.range 29 = [0, 1, 2, 3, 4, 5, 6, 7, 8, 9, 10, 11, 12, 13, 14, 15, 16, 17, 18, 19, 20, 21, 22, 23, 24, 25, 26, 27, 28] := rfl
theorem rep29 (α : Type) (a : α) : List.replicate 29 a = [a, a, a, a, a, a, a, a, a, a, a, a, a, a, a, a, a, a, a, a, a, a, a, a, a, a, a, a, a] := rfl
theorem l2Words_d : Cl Tryz.prog 173 [] [] fun r _ => r = .c (.sl 29 (words.flatMap srow) none) := by
 refine cl_of_d follows_mixed false Tryz.func173 rfl (by kernel_rfl) ?_
 simp only [tt, seval, Tryz.f173, range29, rep29]
 refine ⟨_, [], rfl, endOk ?_⟩
 simp only [tt, seval, words, kws, srow]
def ixOf (f : ByteArray) (l : List ByteArray) : Int := if l.findIdx (fun w => decide (w = f)) < l.length then l.findIdx (fun w => decide (w = f)) else -1
def key (s : ByteArray) : Int := ixOf (foldB s) kws + 1
end Go.Proofs.YtoegnikpokgbfaaGreatDoor
namespace Go.Proofs.YtoegnikpokgbfaaGreatDoor
open Go Go.Shelf Go.Proofs
def Tryz.lays146_ren : Go.Shelf.Ren := ⟨fun | 146 => 145 | 221 => 207 | 268 => 234 | 138 => 235 | 143 => 236 | 195 => 250 | 197 => 251 | 218 => 252 | 219 => 253 | 260 => 267 | 217 => 268 | 225 => 269 | 224 => 270 | 267 => 271 | 266 => 286 | 314 => 287 | n => n, fun | 9 => 9 | 31 => 151 | 3 => 3 | 4 => 4 | 0 => 0 | 105 => 228 | 21 => 21 | 5 => 5 | 46 => 113 | 119 => 252 | 139 => 255 | 138 => 254 | 146 => 256 | 51 => 165 | n => n, fun | 1 => 0 | 3 => 2 | 4 => 3 | n => n⟩
theorem Tryz.lays146 : Go.Proofs.Lays.n146 Tryz.prog Tryz.lays146_ren := {
 mixed := by kernel_rfl
 f138 := Tryz.func235.trans (congrArg some (by kernel_rfl))
 f143 := Tryz.func236.trans (congrArg some (by kernel_rfl))
 f146 := Tryz.func145.trans (congrArg some (by kernel_rfl))
 f195 := Tryz.func250.trans (congrArg some (by kernel_rfl))
 f197 := Tryz.func251.trans (congrArg some (by kernel_rfl))
 f217 := Tryz.func268.trans (congrArg some (by kernel_rfl))
 f218 := Tryz.func252.trans (congrArg some (by kernel_rfl))
 f219 := Tryz.func253.trans (congrArg some (by kernel_rfl))
 f221 := Tryz.func207.trans (congrArg some (by kernel_rfl))
 f224 := Tryz.func270.trans (congrArg some (by kernel_rfl))
 f225 := Tryz.func269.trans (congrArg some (by kernel_rfl))
 f260 := Tryz.func267.trans (congrArg some (by kernel_rfl))
 f266 := Tryz.func286.trans (congrArg some (by kernel_rfl))
 f267 := Tryz.func271.trans (congrArg some (by kernel_rfl))
 f268 := Tryz.func234.trans (congrArg some (by kernel_rfl))
 f314 := Tryz.func287.trans (congrArg some (by kernel_rfl))
 t0 := Tryz.underlying0
 a0 := Tryz.isAgg0
 z0 := Tryz.sizeOf0
 v0 := Tryz.zeroValue0
 t3 := Tryz.underlying3
 a3 := Tryz.isAgg3
 z3 := Tryz.sizeOf3
 v3 := Tryz.zeroValue3
 t4 := Tryz.underlying4
 a4 := Tryz.isAgg4
 z4 := Tryz.sizeOf4
 v4 := Tryz.zeroValue4
 t5 := Tryz.underlying5
 a5 := Tryz.isAgg5
 z5 := Tryz.sizeOf5
 v5 := Tryz.zeroValue5
 t9 := Tryz.underlying9
 a9 := Tryz.isAgg9
 z9 := Tryz.sizeOf9
 v9 := Tryz.zeroValue9
 t21 := Tryz.underlying21
 a21 := Tryz.isAgg21
 z21 := Tryz.sizeOf21
 v21 := Tryz.zeroValue21
 t31 := Tryz.underlying151
 a31 := Tryz.isAgg151
 z31 := Tryz.sizeOf151
 v31 := Tryz.zeroValue151
 t46 := Tryz.underlying113
 a46 := Tryz.isAgg113
 z46 := Tryz.sizeOf113
 v46 := Tryz.zeroValue113
 t51 := Tryz.underlying165
 a51 := Tryz.isAgg165
 z51 := Tryz.sizeOf165
 v51 := Tryz.zeroValue165
 t105 := Tryz.underlying228
 a105 := Tryz.isAgg228
 z105 := Tryz.sizeOf228
 v105 := Tryz.zeroValue228
 t119 := Tryz.underlying252
 a119 := Tryz.isAgg252
 z119 := Tryz.sizeOf252
 t138 := Tryz.underlying254
 a138 := Tryz.isAgg254
 z138 := Tryz.sizeOf254
 v138 := Tryz.zeroValue254
 t139 := Tryz.underlying255
 a139 := Tryz.isAgg255
 z139 := Tryz.sizeOf255
 v139 := Tryz.zeroValue255
 t146 := Tryz.underlying256
 a146 := Tryz.isAgg256
 z146 := Tryz.sizeOf256
 v146 := Tryz.zeroValue256
 g1 := by kernel_rfl
 g3 := by kernel_rfl
 g4 := by kernel_rfl }
def Tryz.lays155_ren : Go.Shelf.Ren := ⟨fun | 155 => 249 | 154 => 266 | 138 => 235 | 165 => 283 | 143 => 236 | 166 => 284 | 197 => 251 | 169 => 285 | 195 => 250 | 218 => 252 | 240 => 297 | 241 => 298 | 219 => 253 | 260 => 267 | 276 => 302 | 277 => 303 | 217 => 268 | 225 => 269 | 224 => 270 | 267 => 271 | 266 => 286 | 314 => 287 | n => n, fun | 9 => 9 | 3 => 3 | 4 => 4 | 72 => 246 | 0 => 0 | 76 => 249 | 105 => 228 | 21 => 21 | 5 => 5 | 70 => 244 | 20 => 20 | 37 => 22 | 75 => 248 | 127 => 259 | 164 => 262 | 46 => 113 | 119 => 252 | 139 => 255 | 138 => 254 | 146 => 256 | 51 => 165 | 80 => 251 | n => n, fun | 1 => 0 | 3 => 2 | 4 => 3 | n => n⟩
theorem Tryz.lays155 : Go.Proofs.Lays.n155 Tryz.prog Tryz.lays155_ren := {
 mixed := by kernel_rfl
 f138 := Tryz.func235.trans (congrArg some (by kernel_rfl))
 f143 := Tryz.func236.trans (congrArg some (by kernel_rfl))
 f154 := Tryz.func266.trans (congrArg some (by kernel_rfl))
 f155 := Tryz.func249.trans (congrArg some (by kernel_rfl))
 f165 := Tryz.func283.trans (congrArg some (by kernel_rfl))
 f166 := Tryz.func284.trans (congrArg some (by kernel_rfl))
 f169 := Tryz.func285.trans (congrArg some (by kernel_rfl))
 f195 := Tryz.func250.trans (congrArg some (by kernel_rfl))
 f197 := Tryz.func251.trans (congrArg some (by kernel_rfl))
 f217 := Tryz.func268.trans (congrArg some (by kernel_rfl))
 f218 := Tryz.func252.trans (congrArg some (by kernel_rfl))
 f219 := Tryz.func253.trans (congrArg some (by kernel_rfl))
 f224 := Tryz.func270.trans (congrArg some (by kernel_rfl))
 f225 := Tryz.func269.trans (congrArg some (by kernel_rfl))
 f240 := Tryz.func297.trans (congrArg some (by kernel_rfl))
 f241 := Tryz.func298.trans (congrArg some (by kernel_rfl))
 f260 := Tryz.func267.trans (congrArg some (by kernel_rfl))
 f266 := Tryz.func286.trans (congrArg some (by kernel_rfl))
 f267 := Tryz.func271.trans (congrArg some (by kernel_rfl))
 f276 := Tryz.func302.trans (congrArg some (by kernel_rfl))
 f277 := Tryz.func303.trans (congrArg some (by kernel_rfl))
 f314 := Tryz.func287.trans (congrArg some (by kernel_rfl))
 t0 := Tryz.underlying0
 a0 := Tryz.isAgg0
 z0 := Tryz.sizeOf0
 v0 := Tryz.zeroValue0
 t3 := Tryz.underlying3
 a3 := Tryz.isAgg3
 z3 := Tryz.sizeOf3
 v3 := Tryz.zeroValue3
 t4 := Tryz.underlying4
 a4 := Tryz.isAgg4
 z4 := Tryz.sizeOf4
 v4 := Tryz.zeroValue4
 t5 := Tryz.underlying5
 a5 := Tryz.isAgg5
 z5 := Tryz.sizeOf5
 v5 := Tryz.zeroValue5
 t9 := Tryz.underlying9
 a9 := Tryz.isAgg9
 z9 := Tryz.sizeOf9
 v9 := Tryz.zeroValue9
 t20 := Tryz.underlying20
 a20 := Tryz.isAgg20
 z20 := Tryz.sizeOf20
 v20 := Tryz.zeroValue20
 t21 := Tryz.underlying21
 a21 := Tryz.isAgg21
 z21 := Tryz.sizeOf21
 v21 := Tryz.zeroValue21
 t37 := Tryz.underlying22
 a37 := Tryz.isAgg22
 z37 := Tryz.sizeOf22
 v37 := Tryz.zeroValue22
 t46 := Tryz.underlying113
 a46 := Tryz.isAgg113
 z46 := Tryz.sizeOf113
 v46 := Tryz.zeroValue113
 t51 := Tryz.underlying165
 a51 := Tryz.isAgg165
 z51 := Tryz.sizeOf165
 v51 := Tryz.zeroValue165
 t70 := Tryz.underlying244
 a70 := Tryz.isAgg244
 z70 := Tryz.sizeOf244
 v70 := Tryz.zeroValue244
 t72 := Tryz.underlying246
 a72 := Tryz.isAgg246
 z72 := Tryz.sizeOf246
 v72 := Tryz.zeroValue246
 t75 := Tryz.underlying248
 a75 := Tryz.isAgg248
 z75 := Tryz.sizeOf248
 v75 := Tryz.zeroValue248
 t76 := Tryz.underlying249
 a76 := Tryz.isAgg249
 z76 := Tryz.sizeOf249
 v76 := Tryz.zeroValue249
 t105 := Tryz.underlying228
 a105 := Tryz.isAgg228
 z105 := Tryz.sizeOf228
 v105 := Tryz.zeroValue228
 t119 := Tryz.underlying252
 a119 := Tryz.isAgg252
 z119 := Tryz.sizeOf252
 t127 := Tryz.underlying259
 a127 := Tryz.isAgg259
 z127 := Tryz.sizeOf259
 v127 := Tryz.zeroValue259
 t138 := Tryz.underlying254
 a138 := Tryz.isAgg254
 z138 := Tryz.sizeOf254
 v138 := Tryz.zeroValue254
 t139 := Tryz.underlying255
 a139 := Tryz.isAgg255
 z139 := Tryz.sizeOf255
 v139 := Tryz.zeroValue255
 t146 := Tryz.underlying256
 a146 := Tryz.isAgg256
 z146 := Tryz.sizeOf256
 v146 := Tryz.zeroValue256
 t164 := Tryz.underlying262
 a164 := Tryz.isAgg262
 z164 := Tryz.sizeOf262
 v164 := Tryz.zeroValue262
 g1 := by kernel_rfl
 g3 := by kernel_rfl
 g4 := by kernel_rfl }
theorem Tryz.Builder_Extra_155 : Builder.Extra Tryz.prog Tryz.lays155_ren := {
 sizeBuilder := by kernel_rfl
 liesBuilder := by kernel_rfl
 t5 := Tryz.underlying5
 a5 := Tryz.isAgg5
 z5 := Tryz.sizeOf5
 v5 := Tryz.zeroValue5
 infoByte := by kernel_rfl
 cellsByte := by kernel_rfl
 sizeByte := by kernel_rfl
 neB5 := by decide }
def Tryz.laysM171_ren : Go.Shelf.Ren := ⟨fun | 171 => 204 | 243 => 232 | 246 => 248 | 283 => 262 | 284 => 263 | 285 => 264 | 286 => 265 | 129 => 163 | 317 => 279 | 318 => 280 | 319 => 281 | 320 => 282 | 337 => 295 | 338 => 296 | n => n, fun | 3 => 3 | 9 => 9 | 2 => 2 | 4 => 4 | 171 => 233 | 0 => 0 | 53 => 167 | 37 => 22 | 5 => 5 | 173 => 235 | 212 => 242 | 51 => 165 | 20 => 20 | 213 => 243 | 46 => 113 | 232 => 260 | 233 => 261 | n => n, fun | 17 => 1 | 18 => 4 | 19 => 5 | n => n⟩
theorem Tryz.laysM171 : Go.Proofs.LaysM.n171 Tryz.prog Tryz.laysM171_ren := {
 mixed := by kernel_rfl
 f129 := Tryz.func163.trans (congrArg some (by kernel_rfl))
 f171 := Tryz.func204.trans (congrArg some (by kernel_rfl))
 f243 := Tryz.func232.trans (congrArg some (by kernel_rfl))
 f246 := Tryz.func248.trans (congrArg some (by kernel_rfl))
 f283 := Tryz.func262.trans (congrArg some (by kernel_rfl))
 f284 := Tryz.func263.trans (congrArg some (by kernel_rfl))
 f285 := Tryz.func264.trans (congrArg some (by kernel_rfl))
 f286 := Tryz.func265.trans (congrArg some (by kernel_rfl))
 f317 := Tryz.func279.trans (congrArg some (by kernel_rfl))
 f318 := Tryz.func280.trans (congrArg some (by kernel_rfl))
 f319 := Tryz.func281.trans (congrArg some (by kernel_rfl))
 f320 := Tryz.func282.trans (congrArg some (by kernel_rfl))
 f337 := Tryz.func295.trans (congrArg some (by kernel_rfl))
 f338 := Tryz.func296.trans (congrArg some (by kernel_rfl))
 t0 := Tryz.underlying0
 a0 := Tryz.isAgg0
 z0 := Tryz.sizeOf0
 v0 := Tryz.zeroValue0
 t2 := Tryz.underlying2
 a2 := Tryz.isAgg2
 z2 := Tryz.sizeOf2
 v2 := Tryz.zeroValue2
 t3 := Tryz.underlying3
 a3 := Tryz.isAgg3
 z3 := Tryz.sizeOf3
 v3 := Tryz.zeroValue3
 t4 := Tryz.underlying4
 a4 := Tryz.isAgg4
 z4 := Tryz.sizeOf4
 v4 := Tryz.zeroValue4
 t5 := Tryz.underlying5
 a5 := Tryz.isAgg5
 z5 := Tryz.sizeOf5
 v5 := Tryz.zeroValue5
 t9 := Tryz.underlying9
 a9 := Tryz.isAgg9
 z9 := Tryz.sizeOf9
 v9 := Tryz.zeroValue9
 t20 := Tryz.underlying20
 a20 := Tryz.isAgg20
 z20 := Tryz.sizeOf20
 v20 := Tryz.zeroValue20
 t37 := Tryz.underlying22
 a37 := Tryz.isAgg22
 z37 := Tryz.sizeOf22
 v37 := Tryz.zeroValue22
 t46 := Tryz.underlying113
 a46 := Tryz.isAgg113
 z46 := Tryz.sizeOf113
 v46 := Tryz.zeroValue113
 t51 := Tryz.underlying165
 a51 := Tryz.isAgg165
 z51 := Tryz.sizeOf165
 v51 := Tryz.zeroValue165
 t53 := Tryz.underlying167
 a53 := Tryz.isAgg167
 z53 := Tryz.sizeOf167
 v53 := Tryz.zeroValue167
 t171 := Tryz.underlying233
 a171 := Tryz.isAgg233
 z171 := Tryz.sizeOf233
 v171 := Tryz.zeroValue233
 t173 := Tryz.underlying235
 a173 := Tryz.isAgg235
 z173 := Tryz.sizeOf235
 v173 := Tryz.zeroValue235
 t212 := Tryz.underlying242
 a212 := Tryz.isAgg242
 z212 := Tryz.sizeOf242
 v212 := Tryz.zeroValue242
 t213 := Tryz.underlying243
 a213 := Tryz.isAgg243
 z213 := Tryz.sizeOf243
 t232 := Tryz.underlying260
 a232 := Tryz.isAgg260
 z232 := Tryz.sizeOf260
 v232 := Tryz.zeroValue260
 t233 := Tryz.underlying261
 a233 := Tryz.isAgg261
 z233 := Tryz.sizeOf261
 v233 := Tryz.zeroValue261
 g17 := by kernel_rfl
 g18 := by kernel_rfl
 g19 := by kernel_rfl
 i0 := by kernel_rfl
 i2 := by kernel_rfl
 i3 := by kernel_rfl
 i4 := by kernel_rfl
 i5 := by kernel_rfl
 i9 := by kernel_rfl
 i20 := by kernel_rfl
 i37 := by kernel_rfl
 i46 := by kernel_rfl
 i51 := by kernel_rfl
 i53 := by kernel_rfl
 i171 := by kernel_rfl
 i173 := by kernel_rfl
 i212 := by kernel_rfl
 i232 := by kernel_rfl
 i233 := by kernel_rfl
 m17 := by kernel_rfl
 m18 := by kernel_rfl
 m19 := by kernel_rfl }
end Go.Proofs.YtoegnikpokgbfaaGreatDoor
set_option maxRecDepth 8000
namespace Go.Proofs.YtoegnikpokgbfaaGreatDoor
open Go Go.Dv
open Go.Vc (D shrI xorI andI and255)
open Go.RowKit (Below)
theorem gl_pow {w : World} {own : Nat → Prop} (h : GlW w own) : ∃ ty lh, w.heap[1]? = some (.cells (Lib.pow10Tab.map fun z => Value.int .u64 z).toArray ty lh) := by
 obtain ⟨_, cs, ty, lh, h2, h3⟩ := h _ (List.mem_cons_self)
 exact ⟨ty, lh, by rw [← h3]; exact h2⟩
theorem gl_max {w : World} {own : Nat → Prop} (h : GlW w own) : ∃ m, w.cell? ⟨0, 0, none⟩ = some (.int .i64 m) := by
 obtain ⟨_, cs, ty, lh, h2, m, h3⟩ := h _ (List.mem_cons_of_mem _ (List.mem_cons_self))
 exact ⟨m, by simp only [World.cell?, h2]; exact h3⟩
theorem below_grow (w : World) (k : Nat) (os : Array Obj) : Below w.heap.size w (Go.Sort.grow (w.drewN k) os) :=
 ⟨rfl, rfl, rfl, by simp [Go.Sort.grow, World.drewN], fun i hi => by simp [Go.Sort.grow, World.drewN, Array.getElem?_append, hi]⟩
def itoaB (n : Int) : ByteArray := ⟨(Lib.itoa n).toArray⟩
theorem decDigits_len (u : Nat) : ∀ k, u < 10 ^ (k + 1) → (Lib.decDigits u).length ≤ k + 1 := by
 intro k
 induction k generalizing u with
 | zero => intro h; rw [Lib.decDigits, dif_pos (by simpa using h)]; simp
 | succ k ih =>
  intro h
  rw [Lib.decDigits]
  split
  ·simp
  ·have := ih (u / 10) (by rw [Nat.pow_succ] at h; omega)
   simp only [List.length_append, List.length_singleton]; omega
theorem itoa_len {n : Int} (h0 : -9223372036854775808 ≤ n) (h1 : n ≤ 9223372036854775807) : (Lib.itoa n).length ≤ 20 := by
 unfold Lib.itoa
 split
 ·have := decDigits_len n.natAbs 18 (by omega)
  simp only [List.length_cons]; omega
 ·have := decDigits_len n.toNat 18 (by omega)
  omega
theorem itoaB_size {n : Int} (h0 : -9223372036854775808 ≤ n) (h1 : n ≤ 9223372036854775807) : (itoaB n).size ≤ 20 := by
 show (List.toArray _).size ≤ 20
 simpa using itoa_len h0 h1
theorem Itoa_d (n : Int) (h0 : -9223372036854775808 ≤ n) (h1 : n ≤ 9223372036854775807) : Cl Tryz.prog 204 [vi n] [] fun r _ => r = vs (itoaB n) :=
 Cl.ofVals (by kernel_rfl) [.int .i64 n] fun w hg => by
  obtain ⟨ty, lh, hp⟩ := gl_pow hg
  refine (Any.strconv_Itoa Tryz.laysM171 n h0 h1 w ?_).mono ?_
  ·unfold Lib.TabIs World.var?
   rw [show Tryz.prog.globalNamed _ = some 1 by kernel_rfl]
   simp only [Option.bind_some, hp]
  ·rintro e w' ⟨rfl, k, os, rfl⟩
   have := itoaB_size h0 h1
   exact ⟨_, rfl, by show ByteArray.size _ ≤ maxLen; simp only [maxLen]; exact Nat.le_trans this (by decide), rfl, below_grow w k os⟩
end Go.Proofs.YtoegnikpokgbfaaGreatDoor
set_option maxRecDepth 8000
namespace Go.Proofs.YtoegnikpokgbfaaGreatDoor
open Go Go.Dv
open Go.Vc (D shrI xorI andI and255)
open Go.RowKit (Below)
open Go.Vc (CellF RowF ValsF okV)
theorem strs_vals (w : World) : ∀ l : List ByteArray, (∀ s ∈ l, s.size ≤ maxLen) → ValsF w (l.flatMap srow) (l.map Value.string) []
 | [], _ => rfl
 | s :: r, h => ⟨[], [], ⟨rfl, rfl, h s (by simp)⟩, strs_vals w r fun x hx => h x (by simp [hx]), rfl⟩
theorem strs_cell (w w' : World) (ty : TypeId) (l : List ByteArray) (hl : l ≠ []) (hs : ∀ s ∈ l, s.size ≤ maxLen) (hn : l.length ≤ maxLen) (β : Nat → Option Nat) (hw : w'.heap[w.heap.size]? = some (.cells (l.map Value.string).toArray ty (0, 0))) :
 RelS Tryz.prog w' β (fun b => w.heap.size ≤ b) (.c (.sl l.length (l.flatMap srow) none)) (.slice (some ⟨w.heap.size, 0, none⟩) l.length l.length) := by
 have hrow : RowF w' w.heap.size 0 (l.flatMap srow) [] := (strs_vals w' l hs).row fun j v hj => by
  rw [cell_of_row w' w.heap.size (0 + j) _ _ _ hw]; simpa using hj
 refine ⟨[w.heap.size], ⟨some ⟨w.heap.size, 0, none⟩, l.length, rfl, Nat.le_refl _, hn, (fun e => by cases e), .inr ⟨?_, w.heap.size, 0, [], rfl, hrow, rfl⟩⟩, (fun b hb => by simp at hb; omega), (fun _ e => by cases e)⟩
 cases l with
 | nil => exact absurd rfl hl
 | cons s r => simp [srow]
end Go.Proofs.YtoegnikpokgbfaaGreatDoor
set_option maxRecDepth 8000
namespace Go.Proofs.YtoegnikpokgbfaaGreatDoor
open Go Go.Dv
open Go.Vc (D shrI xorI andI and255)
def partB (b : Int) : Bool := letB b || decide (48 ≤ b ∧ b ≤ 57)
def plainN (s : ByteArray) : Bool := decide (1 ≤ s.size ∧ s.size ≤ 20) && (!decide (48 ≤ ((s.data.toList.headD 0).toNat : Int) ∧ ((s.data.toList.headD 0).toNat : Int) ≤ 57) && (decide (key s = 0) && s.data.toList.all fun b => partB b.toNat))
def quoteL (c : UInt8) (l : List UInt8) : List UInt8 := l.flatMap fun b => if b = c then [c, c] else [b]
def quoteB (c : UInt8) (s : ByteArray) : ByteArray := ⟨(c :: (quoteL c s.data.toList ++ [c])).toArray⟩
theorem quoteL_len (c : UInt8) (l : List UInt8) : (quoteL c l).length ≤ 2 * l.length := by
 induction l with
 | nil => simp [quoteL]
 | cons b r ih =>
  unfold quoteL at *
  rw [List.flatMap_cons, List.length_append, List.length_cons]
  split <;> simp only [List.length_cons, List.length_nil] <;> omega
end Go.Proofs.YtoegnikpokgbfaaGreatDoor
set_option maxRecDepth 8000
namespace Go.Proofs.YtoegnikpokgbfaaGreatDoor
open Go Go.Dv
open Go.Vc (D shrI xorI andI and255)
open Go.RowKit (Below)
open Go.Vc (okV)
theorem index_none1 (c : UInt8) : ∀ l : List UInt8, c ∉ l → Lib.index l [c] = -1
 | [], _ => rfl
 | b :: l, h => by
  simp only [List.mem_cons, not_or] at h
  have ih := index_none1 c l h.2
  have hb : ([c] : List UInt8).isPrefixOf (b :: l) = false := by simp [List.isPrefixOf, h.1]
  simp [Lib.index, hb, ih]
theorem index_at1 (c : UInt8) : ∀ a r : List UInt8, c ∉ a → Lib.index (a ++ c :: r) [c] = a.length
 | [], r, _ => by simp [Lib.index, List.isPrefixOf]
 | b :: a, r, h => by
  simp only [List.mem_cons, not_or] at h
  have ih := index_at1 c a r h.2
  have hb : ([c] : List UInt8).isPrefixOf (b :: (a ++ c :: r)) = false := by simp [List.isPrefixOf, h.1]
  have hne : ¬ ((a.length : Int) = -1) := by omega
  simp [Lib.index, hb, ih, hne]
theorem quoteL_none {c : UInt8} : ∀ {l : List UInt8}, c ∉ l → quoteL c l = l
 | [], _ => rfl
 | b :: l, h => by
  simp only [List.mem_cons, not_or] at h
  have ih := quoteL_none h.2
  unfold quoteL at *
  rw [List.flatMap_cons, ih, if_neg (fun e => h.1 e.symm)]; rfl
theorem replaceK_one (c : UInt8) : ∀ (n : Nat) (l : List UInt8), l.length ≤ n → Lib.replaceK [c] [c, c] (Lib.count l [c]) l = quoteL c l := by
 intro n
 induction n with
 | zero =>
  intro l h
  have : l = [] := List.eq_nil_of_length_eq_zero (by omega)
  subst this
  rw [Lib.count_miss (index_none1 c [] (by simp))]; rfl
 | succ n ih =>
  intro l h
  by_cases hc : c ∈ l
  ·obtain ⟨a, r, rfl, ha⟩ := List.eq_append_cons_of_mem hc
   have hi := index_at1 c a r ha
   have hdrop : (a ++ c :: r).drop (a.length + [c].length) = r := by
    rw [show a ++ c :: r = (a ++ [c]) ++ r by simp, List.drop_left' (by simp)]
   rw [Lib.count_hit (by simp) hi, Nat.add_comm, Lib.replaceK_hit _ _ _ _ _ hi, hdrop, ih r (by simp at h; omega), List.take_left' rfl]
   unfold quoteL
   rw [List.flatMap_append, List.flatMap_cons, if_pos rfl]
   have := quoteL_none ha
   unfold quoteL at this
   rw [this]; simp
  ·rw [Lib.count_miss (index_none1 c l hc), quoteL_none hc]; rfl
theorem replaceAll_one (c : UInt8) (l : List UInt8) : Lib.replaceAll l [c] [c, c] = quoteL c l := by
 have hne : ([c] == [c, c]) = false := by simp
 unfold Lib.replaceAll Lib.replace Lib.replaceNum
 rw [hne, if_neg (by simp), if_pos (by simp)]
 exact replaceK_one c l.length l (Nat.le_refl _)
theorem data_append (a b : ByteArray) : (a ++ b).data.toList = a.data.toList ++ b.data.toList := by rw [ByteArray.data_append, Array.toList_append]
def one (c : UInt8) : ByteArray := ⟨#[c]⟩
theorem two_list (c : UInt8) : (one c ++ one c).data.toList = [c, c] := by rw [data_append]; rfl
theorem ReplaceAll_d (s : ByteArray) (c : UInt8) (hs : s.size ≤ 1048576) : Cl Tryz.prog 249 [vs s, vs (one c), vs (one c ++ one c)] [] fun r _ => r = vs ⟨(quoteL c s.data.toList).toArray⟩ :=
 Cl.ofVals (by kernel_rfl) [.string s, .string (one c), .string (one c ++ one c)] fun w hg => by
  obtain ⟨m, hm⟩ := gl_max hg
  have h2 : (one c ++ one c).size = 2 := by rw [← size_toList, two_list]; rfl
  have hcnt : Lib.countB s (one c) ≤ s.size := Lib.countB_le (one c) (Nat.le_refl 1) s.size s (Nat.le_refl _)
  refine (Any.strings_ReplaceAll Tryz.lays155 Tryz.Builder_Extra_155 s (one c) (one c ++ one c) m w (by omega) hm (Nat.le_refl 1) (by rw [h2]; omega)).mono ?_
  rintro e w' ⟨rfl, hb⟩
  rw [two_list, show (one c).data.toList = [c] from rfl, replaceAll_one]
  refine ⟨_, rfl, ?_, rfl, hb⟩
  show (List.toArray _).size ≤ maxLen
  have := quoteL_len c s.data.toList
  rw [size_toList] at this
  simp only [List.size_toArray, maxLen]; omega
theorem ba_ext {a b : ByteArray} (h : a.data.toList = b.data.toList) : a = b := by
 obtain ⟨⟨x⟩⟩ := a; obtain ⟨⟨y⟩⟩ := b
 simp only at h; rw [h]
theorem size_app (a b : ByteArray) : (a ++ b).size = a.size + b.size := by rw [← size_toList, data_append, List.length_append, size_toList, size_toList]
theorem quoted_d (s : ByteArray) (c : UInt8) (hs : s.size ≤ 1048576) : Cl Tryz.prog 233 [vs s, vs (one c)] [] fun r _ => r = vs (quoteB c s) := by
 have h1 : (one c).size = 1 := rfl
 refine cl_of_d follows_mixed false Tryz.func233 rfl (by kernel_rfl) ?_
 simp only [Tryz.f233, tt, seval]
 rw [pu_sadd (by omega)]
 refine cZ (ReplaceAll_d s c hs) (by decide) ?_ ?_ <;> simp only [tt, seval]
 have hq : (⟨(quoteL c s.data.toList).toArray⟩ : ByteArray).size ≤ 2 * s.size := by
  have := quoteL_len c s.data.toList
  rw [size_toList] at this
  show (List.toArray _).size ≤ _
  simpa using this
 rw [pu_sadd (by omega)]
 simp only [tt, seval]
 rw [pu_sadd (by rw [size_app]; omega)]
 simp only [tt, seval]
 exact ⟨_, _, vsE (ba_ext (by rw [data_append, data_append]; simp [one, quoteB])), end0 rfl⟩
theorem t39 : (((39 : UInt8).toNat : Nat) : Int) = 39 := rfl
def nameT (s : ByteArray) : ByteArray := if 1 ≤ s.size ∧ s.size ≤ 20 then (if plainN s = true then s else quoteB 34 s) else ⟨#[]⟩
theorem iQuoteText_d (s : ByteArray) (hs : s.size ≤ 1048576) : Cl Tryz.prog 206 [vs s] [] fun r _ => r = vs (quoteB 39 s) := by
 refine cl_of_d follows_mixed false Tryz.func206 rfl (by kernel_rfl) ?_
 simp only [Tryz.f206, tt, seval]
 refine cZ (quoted_d s 39 hs) (by decide) ?_ ?_ <;> simp only [tt, seval, one]
 exact ⟨_, _, rfl, end0 rfl⟩
end Go.Proofs.YtoegnikpokgbfaaGreatDoor
set_option maxRecDepth 8000
namespace Go.Proofs.YtoegnikpokgbfaaGreatDoor
open Go Go.Dv
open Go.Vc (D shrI xorI andI and255)
def valOk (v : Val) : Bool :=
 if v.kind = 0 then decide (v.num = 0) && decide (v.text = ⟨#[]⟩) else if v.kind = 1 then decide (v.text = ⟨#[]⟩)
 else if v.kind = 2 then decide (v.num = 0) && decide ((v.text.size : Int) ≤ 200) else if v.kind = 3 then decide (0 ≤ v.num ∧ v.num ≤ 1) && decide (v.text = ⟨#[]⟩) else false
theorem ValueOk_d (v : Val) : Cl Tryz.prog 217 [.ag (csOf v.row)] [] fun r _ => r = vb (valOk v) := by
 rw [Val.row]
 refine cl_of_d follows_mixed false Tryz.func217 rfl (by kernel_rfl) ?_
 simp only [Tryz.f217, tt, seval]
 refine And.intro (fun h0 => ?_) (fun h0 => ?_)
 ·refine And.intro (fun h => ?_) (fun h => ?_) <;> simp only [tt, seval]
  ·exact ⟨_, _, vbE (by rw [valOk, if_pos h0, h]; rfl), end0 rfl⟩
  ·exact ⟨_, _, vbE (by rw [valOk, if_pos h0, h]; rfl), end0 rfl⟩
 ·try simp only [tt, seval]
  refine And.intro (fun h1 => ?_) (fun h1 => ?_)
  ·exact ⟨_, _, vbE (by rw [valOk, if_neg h0, if_pos h1]), end0 rfl⟩
  ·try simp only [tt, seval]
   refine And.intro (fun h2 => ?_) (fun h2 => ?_)
   ·refine And.intro (fun h => ?_) (fun h => ?_) <;> simp only [tt, seval]
    ·exact fun _ => ⟨_, _, vbE (by rw [valOk, if_neg h0, if_neg h1, if_pos h2, h]; rfl), end0 rfl⟩
    ·exact ⟨_, _, vbE (by rw [valOk, if_neg h0, if_neg h1, if_pos h2, h]; rfl), end0 rfl⟩
   ·try simp only [tt, seval]
    refine And.intro (fun h3 => ?_) (fun h3 => ?_)
    ·try simp only [tt, seval]
     refine cZ (l1In_d v.num 0 1) (by decide) ?_ ?_ <;> simp only [tt, seval]
     cases hn : decide ((0 : Int) ≤ v.num ∧ v.num ≤ 1) <;> simp only [tt, seval]
     ·exact ⟨_, _, vbE (by rw [valOk, if_neg h0, if_neg h1, if_neg h2, if_pos h3, hn]; rfl), end0 rfl⟩
     ·exact ⟨_, _, vbE (by rw [valOk, if_neg h0, if_neg h1, if_neg h2, if_pos h3, hn]; rfl), end0 rfl⟩
    ·exact ⟨_, _, vbE (by rw [valOk, if_neg h0, if_neg h1, if_neg h2, if_neg h3]), end0 rfl⟩
theorem iValueOk_d (v : Val) : Cl Tryz.prog 205 [.ag (csOf v.row)] [] fun r _ => r = vb (valOk v) := by
 rw [Val.row]
 refine cl_of_d follows_mixed false Tryz.func205 rfl (by kernel_rfl) ?_
 simp only [Tryz.f205, tt, seval]
 refine And.intro (fun h0 => ?_) (fun h0 => ?_)
 ·refine And.intro (fun h => ?_) (fun h => ?_) <;> simp only [tt, seval]
  ·exact ⟨_, _, vbE (by rw [valOk, if_pos h0, h]; rfl), end0 rfl⟩
  ·exact ⟨_, _, vbE (by rw [valOk, if_pos h0, h]; rfl), end0 rfl⟩
 ·try simp only [tt, seval]
  refine And.intro (fun h1 => ?_) (fun h1 => ?_)
  ·exact ⟨_, _, vbE (by rw [valOk, if_neg h0, if_pos h1]), end0 rfl⟩
  ·try simp only [tt, seval]
   refine And.intro (fun h2 => ?_) (fun h2 => ?_)
   ·refine And.intro (fun h => ?_) (fun h => ?_) <;> simp only [tt, seval]
    ·exact fun _ => ⟨_, _, vbE (by rw [valOk, if_neg h0, if_neg h1, if_pos h2, h]; rfl), end0 rfl⟩
    ·exact ⟨_, _, vbE (by rw [valOk, if_neg h0, if_neg h1, if_pos h2, h]; rfl), end0 rfl⟩
   ·try simp only [tt, seval]
    refine And.intro (fun h3 => ?_) (fun h3 => ?_)
    ·have fin : ∀ b : Bool, decide ((0 : Int) ≤ v.num ∧ v.num ≤ 1) = b → valOk v = (b && decide (v.text = ⟨#[]⟩)) := fun b hb => by rw [valOk, if_neg h0, if_neg h1, if_neg h2, if_pos h3, hb]
     by_cases hz : v.num = 0
     ·simp only [tt, seval, decide_eq_true hz]
      exact ⟨_, _, vbE (by rw [fin true (decide_eq_true (by omega))]; rfl), end0 rfl⟩
     ·simp only [tt, seval, decide_eq_false hz]
      by_cases ho : v.num = 1
      ·simp only [tt, seval, decide_eq_true ho]
       exact ⟨_, _, vbE (by rw [fin true (decide_eq_true (by omega))]; rfl), end0 rfl⟩
      ·simp only [tt, seval, decide_eq_false ho]
       exact ⟨_, _, vbE (by rw [fin false (decide_eq_false (by omega))]; rfl), end0 rfl⟩
    ·exact ⟨_, _, vbE (by rw [valOk, if_neg h0, if_neg h1, if_neg h2, if_neg h3]), end0 rfl⟩
def valT (v : Val) : ByteArray :=
 if valOk v = false then ⟨#[63]⟩ else if v.kind = 1 then itoaB v.num else if v.kind = 2 then quoteB 39 v.text else if v.kind = 3 then (if v.num = 1 then ⟨#[84, 82, 85, 69]⟩ else ⟨#[70, 65, 76, 83, 69]⟩) else ⟨#[78, 85, 76, 76]⟩
theorem iDigits_d (n : Int) (h0 : -9223372036854775808 ≤ n) (h1 : n ≤ 9223372036854775807) : Cl Tryz.prog 142 [vi n] [] fun r _ => r = vs (itoaB n) := by
 refine cl_of_d follows_mixed false Tryz.func142 rfl (by kernel_rfl) ?_
 simp only [Tryz.f142, tt, seval]
 refine cZ (Itoa_d n h0 h1) (by decide) ?_ ?_ <;> simp only [tt, seval]
 exact ⟨_, _, rfl, end0 rfl⟩
def sg (b : Bool) (k : Nat) : Int := if b = true then -(k : Int) else k
theorem sg_mod (b : Bool) (k : Nat) : (sg b k).tmod 10 = sg b (k % 10) := by
 unfold sg; split
 ·rw [Int.neg_tmod]; rfl
 ·rfl
theorem sg_div (b : Bool) (k : Nat) : (sg b k).tdiv 10 = sg b (k / 10) := by
 unfold sg; split
 ·rw [Int.neg_tdiv]; rfl
 ·rfl
theorem sg_zero (b : Bool) (k : Nat) : sg b k = 0 ↔ k = 0 := by unfold sg; split <;> omega
def digC (k : Nat) : UInt8 := UInt8.ofNat (48 + k % 10)
theorem digC_val (k : Nat) : ((digC k).toNat : Int) = 48 + (k % 10 : Nat) := by
 unfold digC
 rw [UInt8.toNat_ofNat']
 omega
theorem decDigits_step {k : Nat} (h : k / 10 ≠ 0) : Lib.decDigits k = Lib.decDigits (k / 10) ++ [digC k] := by
 rw [Lib.decDigits, dif_neg (by omega)]; rfl
theorem decDigits_small {k : Nat} (h : k / 10 = 0) : Lib.decDigits k = [digC k] := by
 have : k % 10 = k := by omega
 rw [Lib.decDigits, dif_pos (by omega), digC, this]
theorem Digits_d (n : Int) (h0 : -9223372036854775808 ≤ n) (h1 : n ≤ 9223372036854775807) : Cl Tryz.prog 147 [vi n] [] fun r _ => r = vs (itoaB n) := by
 obtain ⟨b, hb⟩ : ∃ b, b = decide (n < 0) := ⟨_, rfl⟩
 refine cl_of_d follows_mixed false Tryz.func147 rfl (by kernel_rfl) ?_
 simp only [Tryz.f147, tt, seval]
 refine And.intro (fun hz => ?_) (fun hz => ?_)
 ·subst hz
  exact ⟨_, _, vsE (show (⟨#[48]⟩ : ByteArray) = itoaB 0 by unfold itoaB Lib.itoa; rw [if_neg (by omega), Lib.decDigits, dif_pos (by decide)]; rfl), end0 rfl⟩
 ·rw [← hb]
  refine dLoop.intro (fun f L p => ∃ (k : Nat) (o : List UInt8), f 0 = vi (sg b k) ∧ f 4 = vs ⟨o.toArray⟩ ∧ k ≤ n.natAbs ∧ Lib.decDigits n.natAbs = (if k = 0 then o else Lib.decDigits k ++ o) ∧ L = [] ∧ p = none) (fun f _ _ => (ixS (f 0)).natAbs) [] none ⟨SubO.nil _, PoSub.none _, ?_⟩ ?_
  ·simp only [tt, seval]
   refine ⟨n.natAbs, [], viE ?_, rfl, Nat.le_refl _, ?_⟩
   ·rw [sg, hb]; simp only [decide_eq_true_eq]; split <;> omega
   ·rw [if_neg (by omega), List.append_nil]
  ·rintro g L p ⟨k, o, hk, ho, hkn, hd, rfl, rfl⟩
   simp only [tt, seval] at hk ho
   have hol : o.length ≤ 20 := by
    have h2 := itoa_len h0 h1
    have h3 : (Lib.decDigits n.natAbs).length ≤ 20 := decDigits_len n.natAbs 19 (by omega)
    rw [hd] at h3
    split at h3
    ·exact h3
    ·rw [List.length_append] at h3; omega
   simp only [tt, seval, hk, ho, sg_mod]
   refine And.intro (fun hne => ?_) (fun heq => ?_)
   ·have hk0 : k ≠ 0 := by
     simp only [Bool.not_eq_true', decide_eq_false_iff_not, sg_zero] at hne; exact hne
    have hdv := digC_val k
    refine And.intro (fun hneg => ?_) (fun hpos => ?_)
    ·have hs : sg b (k % 10) = -((k % 10 : Nat) : Int) := by
      unfold sg at hneg ⊢
      split at hneg
      ·rename_i h; rw [if_pos h]
      ·omega
     have hval : IntKind.u8.wrap (IntKind.i64.wrap (48 + IntKind.i64.wrap (0 - sg b (k % 10)))) = ((digC k).toNat : Int) := by
      rw [hs, wrap_id (n := 0 - -((k % 10 : Nat) : Int)) (by omega) (by omega), wrap_id (by omega) (by omega), IntWalk.u8_in _ (by omega), hdv]; omega
     refine ⟨by kernel_rfl, by decide, [digC k], rfl, by rw [hval]; rfl, ?_⟩
     simp only [tt, seval, ho]
     have hsz : (⟨[digC k].toArray⟩ : ByteArray).size + (⟨o.toArray⟩ : ByteArray).size = 1 + o.length := by show (List.toArray _).size + (List.toArray _).size = _; simp
     rw [pu_sadd (by rw [hsz]; omega)]
     simp only [tt, seval, hk, sg_div]
     rw [wrap_id (n := sg b (k / 10)) (by rw [sg]; split <;> omega) (by rw [sg]; split <;> omega)]
     refine ⟨[], none, SubO.nil _, PoSub.none _, ⟨k / 10, digC k :: o, rfl, vsE (ba_ext (by rw [data_append]; simp)), by omega, ?_, rfl, rfl⟩, ?_⟩
     ·rw [hd, if_neg hk0]
      split
      ·rename_i h; rw [decDigits_small h]; rfl
      ·rename_i h; rw [decDigits_step h]; simp
     ·simp only [ixS, sg]; split <;> omega
    ·have hs : sg b (k % 10) = ((k % 10 : Nat) : Int) := by
      unfold sg at hpos ⊢
      split at hpos
      ·rename_i h; rw [if_pos h]; omega
      ·rename_i h; rw [if_neg h]
     have hval : IntKind.u8.wrap (IntKind.i64.wrap (48 + sg b (k % 10))) = ((digC k).toNat : Int) := by
      rw [hs, wrap_id (by omega) (by omega), IntWalk.u8_in _ (by omega), hdv]
     refine ⟨by kernel_rfl, by decide, [digC k], rfl, by rw [hval]; rfl, ?_⟩
     simp only [tt, seval, ho]
     have hsz : (⟨[digC k].toArray⟩ : ByteArray).size + (⟨o.toArray⟩ : ByteArray).size = 1 + o.length := by show (List.toArray _).size + (List.toArray _).size = _; simp
     rw [pu_sadd (by rw [hsz]; omega)]
     simp only [tt, seval, hk, sg_div]
     rw [wrap_id (n := sg b (k / 10)) (by rw [sg]; split <;> omega) (by rw [sg]; split <;> omega)]
     refine ⟨[], none, SubO.nil _, PoSub.none _, ⟨k / 10, digC k :: o, rfl, vsE (ba_ext (by rw [data_append]; simp)), by omega, ?_, rfl, rfl⟩, ?_⟩
     ·rw [hd, if_neg hk0]
      split
      ·rename_i h; rw [decDigits_small h]; rfl
      ·rename_i h; rw [decDigits_step h]; simp
     ·simp only [ixS, sg]; split <;> omega
   ·have hk0 : k = 0 := by
     simp only [Bool.not_eq_false', decide_eq_true_eq, sg_zero] at heq; exact heq
    subst hk0
    rw [if_pos rfl] at hd
    refine And.intro (fun hb1 => ?_) (fun hb0 => ?_)
    ·have hn : n < 0 := by rw [hb] at hb1; exact of_decide_eq_true hb1
     have hsz : (⟨#[45]⟩ : ByteArray).size + (⟨o.toArray⟩ : ByteArray).size = 1 + o.length := by show 1 + (List.toArray _).size = _; simp
     rw [pu_sadd (by rw [hsz]; omega)]
     simp only [tt, seval]
     exact ⟨_, _, vsE (ba_ext (by rw [data_append]; simp [itoaB, Lib.itoa, hn, hd])), end0 rfl⟩
    ·have hn : ¬ n < 0 := by rw [hb] at hb0; exact of_decide_eq_false hb0
     have e : n.toNat = n.natAbs := by omega
     exact ⟨_, _, vsE (ba_ext (by simp [itoaB, Lib.itoa, hn, e, hd])), end0 rfl⟩
theorem iValueText_d (v : Val) (h0 : -9223372036854775808 ≤ v.num) (h1 : v.num ≤ 9223372036854775807) (hs : v.text.size ≤ 1048576) : Cl Tryz.prog 143 [.ag (csOf v.row)] [] fun r _ => r = vs (valT v) := by
 rw [Val.row]
 refine cl_of_d follows_mixed false Tryz.func143 rfl (by kernel_rfl) ?_
 simp only [Tryz.f143, tt, seval]
 refine cZ (iValueOk_d v) (by decide) ?_ ?_ <;> simp only [tt, seval, Val.row]
 refine And.intro (fun hk => ?_) (fun hk => ?_)
 ·exact ⟨_, _, vsE (by rw [valT, if_pos (by simpa only [Bool.not_eq_true'] using hk)]), end0 rfl⟩
 ·have hk' : ¬ valOk v = false := by simpa only [Bool.not_eq_false', Bool.not_eq_false] using hk
  refine And.intro (fun k1 => ?_) (fun k1 => ?_)
  ·skip
   refine cZ (iDigits_d v.num h0 h1) (by decide) ?_ ?_ <;> simp only [tt, seval]
   exact ⟨_, _, vsE (by rw [valT, if_neg hk', if_pos k1]), end0 rfl⟩
  ·try simp only [tt, seval]
   refine And.intro (fun k2 => ?_) (fun k2 => ?_)
   ·skip
    refine cZ (iQuoteText_d v.text hs) (by decide) ?_ ?_ <;> simp only [tt, seval]
    exact ⟨_, _, vsE (by rw [valT, if_neg hk', if_neg k1, if_pos k2]), end0 rfl⟩
   ·try simp only [tt, seval]
    refine And.intro (fun k3 => ?_) (fun k3 => ?_)
    ·try simp only [tt, seval]
     refine And.intro (fun k4 => ?_) (fun k4 => ?_)
     ·exact ⟨_, _, vsE (by rw [valT, if_neg hk', if_neg k1, if_neg k2, if_pos k3, if_pos k4]), end0 rfl⟩
     ·exact ⟨_, _, vsE (by rw [valT, if_neg hk', if_neg k1, if_neg k2, if_pos k3, if_neg k4]), end0 rfl⟩
    ·exact ⟨_, _, vsE (by rw [valT, if_neg hk', if_neg k1, if_neg k2, if_neg k3]), end0 rfl⟩
end Go.Proofs.YtoegnikpokgbfaaGreatDoor
set_option maxRecDepth 8000
namespace Go.Proofs.YtoegnikpokgbfaaGreatDoor
open Go Go.Dv
open Go.Vc (D shrI xorI andI and255)
open Go.Lib in
def numN (l : List UInt8) : Option Nat := match decFrom 0 l with
 | some m => if m < 9223372036854775808 ∧ decDigits m = l then some m else none
 | none => none
end Go.Proofs.YtoegnikpokgbfaaGreatDoor
set_option maxRecDepth 8000
namespace Go.Proofs.YtoegnikpokgbfaaGreatDoor
open Go Go.Dv
open Go.Vc (D shrI xorI andI and255)
abbrev irow (n : Int) : List D := [int n]
mutual
inductive Expr where
 | mk (kind : Int) (op : Int) (not : Bool) (val : Val) (qual : ByteArray) (name : ByteArray) (kids : List Expr) (sub : List Query)
inductive Item where
 | mk (star : Bool) (qual : ByteArray) (e : Expr) (as_ : ByteArray)
inductive Source where
 | mk (table : ByteArray) (as_ : ByteArray) (on : List Expr)
inductive SortKey where
 | mk (e : Expr) (desc : Bool)
inductive Query where
 | mk (distinct : Bool) (items : List Item) (from_ : List Source) (where_ : List Expr) (order : List SortKey) (limit : Int)
end
mutual
def Expr.row : Expr → List D
 | .mk kind op not val qual name kids sub => int kind :: int op :: bool not :: int val.kind :: int val.num :: str val.text :: str qual :: str name :: .sl kids.length (rowsExpr kids) :: .sl sub.length (rowsQuery sub) :: []
def Item.row : Item → List D
 | .mk star qual e as_ => bool star :: str qual :: (e.row ++ str as_ :: [])
def Source.row : Source → List D
 | .mk table as_ on => str table :: str as_ :: .sl on.length (rowsExpr on) :: []
def SortKey.row : SortKey → List D
 | .mk e desc => (e.row ++ bool desc :: [])
def Query.row : Query → List D
 | .mk distinct items from_ where_ order limit => bool distinct :: .sl items.length (rowsItem items) :: .sl from_.length (rowsSource from_) :: .sl where_.length (rowsExpr where_) :: .sl order.length (rowsSortKey order) :: int limit :: []
def rowsExpr : List Expr → List D
 | [] => []
 | x :: r => x.row ++ rowsExpr r
def rowsItem : List Item → List D
 | [] => []
 | x :: r => x.row ++ rowsItem r
def rowsQuery : List Query → List D
 | [] => []
 | x :: r => x.row ++ rowsQuery r
def rowsSortKey : List SortKey → List D
 | [] => []
 | x :: r => x.row ++ rowsSortKey r
def rowsSource : List Source → List D
 | [] => []
 | x :: r => x.row ++ rowsSource r
end
theorem rowsExpr_eq : ∀ l : List Expr, rowsExpr l = l.flatMap Expr.row
 | [] => by rw [rowsExpr, List.flatMap_nil]
 | x :: r => by rw [rowsExpr, List.flatMap_cons, rowsExpr_eq r]
theorem rowsItem_eq : ∀ l : List Item, rowsItem l = l.flatMap Item.row
 | [] => by rw [rowsItem, List.flatMap_nil]
 | x :: r => by rw [rowsItem, List.flatMap_cons, rowsItem_eq r]
theorem rowsQuery_eq : ∀ l : List Query, rowsQuery l = l.flatMap Query.row
 | [] => by rw [rowsQuery, List.flatMap_nil]
 | x :: r => by rw [rowsQuery, List.flatMap_cons, rowsQuery_eq r]
theorem rowsSortKey_eq : ∀ l : List SortKey, rowsSortKey l = l.flatMap SortKey.row
 | [] => by rw [rowsSortKey, List.flatMap_nil]
 | x :: r => by rw [rowsSortKey, List.flatMap_cons, rowsSortKey_eq r]
theorem rowsSource_eq : ∀ l : List Source, rowsSource l = l.flatMap Source.row
 | [] => by rw [rowsSource, List.flatMap_nil]
 | x :: r => by rw [rowsSource, List.flatMap_cons, rowsSource_eq r]
theorem Expr.row_mk (kind : Int) (op : Int) (not : Bool) (val : Val) (qual : ByteArray) (name : ByteArray) (kids : List Expr) (sub : List Query) : (Expr.mk kind op not val qual name kids sub).row = int kind :: int op :: bool not :: int val.kind :: int val.num :: str val.text :: str qual :: str name :: .sl kids.length (kids.flatMap Expr.row) :: .sl sub.length (sub.flatMap Query.row) :: [] := by rw [Expr.row]; rw [rowsExpr_eq]; rw [rowsQuery_eq]
theorem Item.row_mk (star : Bool) (qual : ByteArray) (e : Expr) (as_ : ByteArray) : (Item.mk star qual e as_).row = bool star :: str qual :: (e.row ++ str as_ :: []) := by rw [Item.row]
theorem Source.row_mk (table : ByteArray) (as_ : ByteArray) (on : List Expr) : (Source.mk table as_ on).row = str table :: str as_ :: .sl on.length (on.flatMap Expr.row) :: [] := by rw [Source.row]; rw [rowsExpr_eq]
theorem SortKey.row_mk (e : Expr) (desc : Bool) : (SortKey.mk e desc).row = (e.row ++ bool desc :: []) := by rw [SortKey.row]
theorem Query.row_mk (distinct : Bool) (items : List Item) (from_ : List Source) (where_ : List Expr) (order : List SortKey) (limit : Int) : (Query.mk distinct items from_ where_ order limit).row = bool distinct :: .sl items.length (items.flatMap Item.row) :: .sl from_.length (from_.flatMap Source.row) :: .sl where_.length (where_.flatMap Expr.row) :: .sl order.length (order.flatMap SortKey.row) :: int limit :: [] := by rw [Query.row]; rw [rowsExpr_eq]; rw [rowsItem_eq]; rw [rowsSortKey_eq]; rw [rowsSource_eq]
theorem Expr.row_len (x : Expr) : x.row.length = 10 := by cases x; simp [Expr.row]
theorem Expr.tk (x : Expr) (r : List D) : takeD 10 (x.row ++ r) = some x.row := takeD_row (Expr.row_len x)
theorem Expr.ne (x : Expr) (r : List D) : x.row ++ r ≠ [] := fun h => by have := congrArg List.length h; simp [Expr.row_len] at this
theorem Source.row_len (x : Source) : x.row.length = 3 := by cases x; simp [Source.row]
theorem Source.ne (x : Source) (r : List D) : x.row ++ r ≠ [] := fun h => by have := congrArg List.length h; simp [Source.row_len] at this
theorem Query.row_len (x : Query) : x.row.length = 6 := by cases x; simp [Query.row]
theorem Query.tk (x : Query) (r : List D) : takeD 6 (x.row ++ r) = some x.row := takeD_row (Query.row_len x)
theorem Query.ne (x : Query) (r : List D) : x.row ++ r ≠ [] := fun h => by have := congrArg List.length h; simp [Query.row_len] at this
theorem Item.row_len (x : Item) : x.row.length = 13 := by cases x; simp [Item.row, Expr.row_len]
theorem Item.tk (x : Item) (r : List D) : takeD 13 (x.row ++ r) = some x.row := takeD_row (Item.row_len x)
theorem Item.ne (x : Item) (r : List D) : x.row ++ r ≠ [] := fun h => by have := congrArg List.length h; simp [Item.row_len] at this
theorem SortKey.row_len (x : SortKey) : x.row.length = 11 := by cases x; simp [SortKey.row, Expr.row_len]
theorem SortKey.ne (x : SortKey) (r : List D) : x.row ++ r ≠ [] := fun h => by have := congrArg List.length h; simp [SortKey.row_len] at this
mutual
def szExpr : Expr → Nat
 | .mk kind op not val qual name kids sub => szVal val + (qual.size + (name.size + (szExprs kids + (szQuerys sub))))
def szItem : Item → Nat
 | .mk star qual e as_ => qual.size + (szExpr e + (as_.size))
def szSource : Source → Nat
 | .mk table as_ on => table.size + (as_.size + (szExprs on))
def szSortKey : SortKey → Nat
 | .mk e desc => szExpr e
def szQuery : Query → Nat
 | .mk distinct items from_ where_ order limit => szItems items + (szSources from_ + (szExprs where_ + (szSortKeys order)))
def szExprs : List Expr → Nat
 | [] => 0
 | x :: r => szExpr x + 1 + szExprs r
def szItems : List Item → Nat
 | [] => 0
 | x :: r => szItem x + 1 + szItems r
def szQuerys : List Query → Nat
 | [] => 0
 | x :: r => szQuery x + 1 + szQuerys r
def szSortKeys : List SortKey → Nat
 | [] => 0
 | x :: r => szSortKey x + 1 + szSortKeys r
def szSources : List Source → Nat
 | [] => 0
 | x :: r => szSource x + 1 + szSources r
end
theorem szExprs_eq : ∀ l : List Expr, szExprs l = l.length + (l.map szExpr).sum
 | [] => by rw [szExprs]; rfl
 | x :: r => by rw [szExprs, szExprs_eq r, List.length_cons, List.map_cons, List.sum_cons]; omega
theorem szItems_eq : ∀ l : List Item, szItems l = l.length + (l.map szItem).sum
 | [] => by rw [szItems]; rfl
 | x :: r => by rw [szItems, szItems_eq r, List.length_cons, List.map_cons, List.sum_cons]; omega
theorem szQuerys_eq : ∀ l : List Query, szQuerys l = l.length + (l.map szQuery).sum
 | [] => by rw [szQuerys]; rfl
 | x :: r => by rw [szQuerys, szQuerys_eq r, List.length_cons, List.map_cons, List.sum_cons]; omega
theorem szSortKeys_eq : ∀ l : List SortKey, szSortKeys l = l.length + (l.map szSortKey).sum
 | [] => by rw [szSortKeys]; rfl
 | x :: r => by rw [szSortKeys, szSortKeys_eq r, List.length_cons, List.map_cons, List.sum_cons]; omega
theorem szSources_eq : ∀ l : List Source, szSources l = l.length + (l.map szSource).sum
 | [] => by rw [szSources]; rfl
 | x :: r => by rw [szSources, szSources_eq r, List.length_cons, List.map_cons, List.sum_cons]; omega
theorem szExpr_mk (kind : Int) (op : Int) (not : Bool) (val : Val) (qual : ByteArray) (name : ByteArray) (kids : List Expr) (sub : List Query) : szExpr (.mk kind op not val qual name kids sub) = szVal val + (qual.size + (name.size + (szExprs kids + (szQuerys sub)))) := by rw [szExpr]
theorem szItem_mk (star : Bool) (qual : ByteArray) (e : Expr) (as_ : ByteArray) : szItem (.mk star qual e as_) = qual.size + (szExpr e + (as_.size)) := by rw [szItem]
theorem szSource_mk (table : ByteArray) (as_ : ByteArray) (on : List Expr) : szSource (.mk table as_ on) = table.size + (as_.size + (szExprs on)) := by rw [szSource]
theorem szSortKey_mk (e : Expr) (desc : Bool) : szSortKey (.mk e desc) = szExpr e := by rw [szSortKey]
theorem szQuery_mk (distinct : Bool) (items : List Item) (from_ : List Source) (where_ : List Expr) (order : List SortKey) (limit : Int) : szQuery (.mk distinct items from_ where_ order limit) = szItems items + (szSources from_ + (szExprs where_ + (szSortKeys order))) := by rw [szQuery]
structure Tok where
 kind : Int
 text : ByteArray
 at_ : Int
def Tok.row (t : Tok) : List D := [int t.kind, str t.text, int t.at_]
theorem Tok.row_len (t : Tok) : t.row.length = 3 := rfl
def signs : List ByteArray := [⟨#[40]⟩, ⟨#[41]⟩, ⟨#[44]⟩, ⟨#[46]⟩, ⟨#[42]⟩, ⟨#[43]⟩, ⟨#[45]⟩, ⟨#[47]⟩, ⟨#[37]⟩, ⟨#[61]⟩, ⟨#[60, 62]⟩, ⟨#[60]⟩, ⟨#[60, 61]⟩, ⟨#[62]⟩, ⟨#[62, 61]⟩, ⟨#[124, 124]⟩]
def signB (s : ByteArray) : Bool := signs.any fun x => decide (s = x)
def opW : List ByteArray := ⟨#[]⟩ :: [⟨#[79, 82]⟩, ⟨#[65, 78, 68]⟩, ⟨#[61]⟩, ⟨#[60, 62]⟩, ⟨#[60]⟩, ⟨#[60, 61]⟩, ⟨#[62]⟩, ⟨#[62, 61]⟩, ⟨#[124, 124]⟩, ⟨#[43]⟩, ⟨#[45]⟩, ⟨#[42]⟩, ⟨#[47]⟩, ⟨#[37]⟩, ⟨#[78, 79, 84]⟩, ⟨#[45]⟩]
def opT (k : Int) : ByteArray := if 1 ≤ k ∧ k ≤ 16 then opW.getD k.toNat ⟨#[]⟩ else ⟨#[]⟩
def kw (k : Nat) : ByteArray := words.getD k ⟨#[]⟩
end Go.Proofs.YtoegnikpokgbfaaGreatDoor
set_option maxRecDepth 8000
namespace Go.Proofs.YtoegnikpokgbfaaGreatDoor
open Go Go.Dv
open Go.Vc (D shrI xorI andI and255)
open Go.RowKit (Below)
theorem KeyText_d (k : Nat) (h1 : 1 ≤ k) (h2 : k ≤ 28) : Cl Tryz.prog 153 [vi k] [] fun r _ => r = vs (kw k) := by
 refine cl_of_d follows_mixed false Tryz.func153 rfl (by kernel_rfl) ?_
 simp only [Tryz.f153, tt, seval]
 refine cZ (l1In_d k 1 28) (by decide) ?_ ?_ <;> simp only [tt, seval]
 simp only [tt, seval, decide_eq_true (show (1 : Int) ≤ k ∧ (k : Int) ≤ 28 by omega)]
 refine cZ (l2Words_d) (by decide) ?_ ?_ <;> simp only [tt, seval]
 have hlt : k < words.length := by show _ < 29; omega
 refine ⟨by omega, by omega, _, drop_row srow_len (List.getElem?_eq_getElem hlt), srow_ne _ _, ?_⟩
 simp only [tt, seval, srow]
 exact ⟨_, _, vsE (by rw [kw, List.getD_eq_getElem?_getD, List.getElem?_eq_getElem hlt]; rfl), end0 rfl⟩
theorem opW_row : ([.lit (.string ⟨#[]⟩), .lit (.string ⟨#[79, 82]⟩), .lit (.string ⟨#[65, 78, 68]⟩), .lit (.string ⟨#[61]⟩), .lit (.string ⟨#[60, 62]⟩), .lit (.string ⟨#[60]⟩), .lit (.string ⟨#[60, 61]⟩), .lit (.string ⟨#[62]⟩), .lit (.string ⟨#[62, 61]⟩), .lit (.string ⟨#[124, 124]⟩), .lit (.string ⟨#[43]⟩), .lit (.string ⟨#[45]⟩), .lit (.string ⟨#[42]⟩), .lit (.string ⟨#[47]⟩), .lit (.string ⟨#[37]⟩), .lit (.string ⟨#[78, 79, 84]⟩), .lit (.string ⟨#[45]⟩)] : List D) = opW.flatMap srow := rfl
theorem opW_tail : ([.lit (.string ⟨#[79, 82]⟩), .lit (.string ⟨#[65, 78, 68]⟩), .lit (.string ⟨#[61]⟩), .lit (.string ⟨#[60, 62]⟩), .lit (.string ⟨#[60]⟩), .lit (.string ⟨#[60, 61]⟩), .lit (.string ⟨#[62]⟩), .lit (.string ⟨#[62, 61]⟩), .lit (.string ⟨#[124, 124]⟩), .lit (.string ⟨#[43]⟩), .lit (.string ⟨#[45]⟩), .lit (.string ⟨#[42]⟩), .lit (.string ⟨#[47]⟩), .lit (.string ⟨#[37]⟩), .lit (.string ⟨#[78, 79, 84]⟩), .lit (.string ⟨#[45]⟩)] : List D) = opW.tail.flatMap srow := rfl
theorem OpText_d (k : Int) : Cl Tryz.prog 149 [vi k] [] fun r _ => r = vs (opT k) := by
 refine cl_of_d follows_mixed false Tryz.func149 rfl (by kernel_rfl) ?_
 simp only [Tryz.f149, tt, seval]
 refine cZ (l1In_d k 1 16) (by decide) ?_ ?_ <;> simp only [tt, seval]
 refine And.intro (fun hc => ?_) (fun hc => ?_)
 ·exact ⟨_, _, vsE (by rw [opT, if_neg (by simpa only [Bool.not_eq_true', decide_eq_false_iff_not] using hc)]), end0 rfl⟩
 ·have hc : 1 ≤ k ∧ k ≤ 16 := by simpa only [Bool.not_eq_false', decide_eq_true_eq] using hc
  have hlt : k.toNat < opW.length := by show _ < 17; omega
  refine ⟨by omega, by omega, ?_⟩
  rw [opW_row, drop_row srow_len (List.getElem?_eq_getElem hlt)]
  simp only [tt, seval, srow]
  exact ⟨_, _, vsE (by rw [opT, if_pos hc, List.getD_eq_getElem?_getD, List.getElem?_eq_getElem hlt]; rfl), end0 rfl⟩
theorem iOpText_d (k : Int) : Cl Tryz.prog 144 [vi k] [] fun r _ => r = vs (opT k) := by
 refine cl_of_d follows_mixed false Tryz.func144 rfl (by kernel_rfl) ?_
 simp only [Tryz.f144, tt, seval]
 by_cases h1 : k < 1
 ·simp only [tt, seval, decide_eq_true h1]
  exact ⟨_, _, vsE (by rw [opT, if_neg (by omega)]), end0 rfl⟩
 ·simp only [tt, seval, decide_eq_false h1]
  refine And.intro (fun h2 => ?_) (fun h2 => ?_)
  ·exact ⟨_, _, vsE (by rw [opT, if_neg (by omega)]), end0 rfl⟩
  ·have hc : 1 ≤ k ∧ k ≤ 16 := by omega
   have hlt : (k - 1).toNat < opW.tail.length := by show _ < 16; omega
   rw [wrap_id (n := k - 1) (by omega) (by omega)]
   refine ⟨by omega, by omega, ?_⟩
   rw [opW_tail, drop_row srow_len (List.getElem?_eq_getElem hlt)]
   simp only [tt, seval, srow]
   have hlt' : k.toNat < opW.length := by show _ < 17; omega
   refine ⟨_, _, vsE ?_, end0 rfl⟩
   rw [opT, if_pos hc, List.getD_eq_getElem?_getD, List.getElem?_eq_getElem hlt']
   simp only [List.getElem_tail, Option.getD_some, show (k - 1).toNat + 1 = k.toNat by omega]
def numOk (s : ByteArray) : Bool := (numN s.data.toList).isSome
end Go.Proofs.YtoegnikpokgbfaaGreatDoor
set_option maxRecDepth 8000
namespace Go.Proofs.YtoegnikpokgbfaaGreatDoor
open Go Go.Dv
open Go.Vc (D shrI xorI andI and255)
def okTok (t : Tok) : Bool := if t.kind = 1 then (decide (¬ key t.text = 0) && decide (foldB t.text = t.text)) else if t.kind = 2 then decide (1 ≤ t.text.size ∧ t.text.size ≤ 20) else if t.kind = 3 then numOk t.text else if t.kind = 4 then decide (t.text.size ≤ 40) else if t.kind = 5 then signB t.text else false
def tokT (t : Tok) : ByteArray := if okTok t = false then ⟨#[]⟩ else if t.kind = 2 then nameT t.text else if t.kind = 4 then quoteB 39 t.text else t.text
def wordB (t : Tok) : Bool := decide (t.kind = 1) || (decide (t.kind = 3) || (decide (t.kind = 2) && plainN t.text))
def quotB (t : Tok) : Bool := decide (t.kind = 2) && !plainN t.text
def gapS (a b : Tok) : Bool :=
 if ¬ a.kind = 5 then false else if ¬ b.kind = 5 then false else
 if a.text = ⟨#[45]⟩ then decide (b.text = ⟨#[45]⟩) else if a.text = ⟨#[47]⟩ then decide (b.text = ⟨#[42]⟩) else
 if a.text = ⟨#[60]⟩ then (decide (b.text.data.toList.headD 0 = 61) || decide (b.text.data.toList.headD 0 = 62)) else if a.text = ⟨#[62]⟩ then decide (b.text.data.toList.headD 0 = 61) else false
def gapC (a b : Tok) : Bool := if ((wordB a && wordB b) || (quotB a && quotB b) || (decide (a.kind = 4) && decide (b.kind = 4))) = true then true else gapS a b
def gapB (a b : Tok) : Bool := if (!(okTok a && okTok b)) = true then false else gapC a b
def jn (l : List Tok) (i : Nat) : List UInt8 := if h : i < l.length then (if 0 < i ∧ gapB (l[i - 1]'(by omega)) l[i] = true then [32] else []) ++ (tokT l[i]).data.toList else []
def joinL (l : List Tok) (k : Nat) : List UInt8 := (List.range k).flatMap (jn l)
theorem joinL_succ (l : List Tok) (k : Nat) : joinL l (k + 1) = joinL l k ++ jn l k := by
 unfold joinL
 rw [List.range_succ, List.flatMap_append]; simp
def Expr.kind : Expr → Int | .mk k _ _ _ _ _ _ _ => k
def Expr.op : Expr → Int | .mk _ o _ _ _ _ _ _ => o
def Expr.kids : Expr → List Expr | .mk _ _ _ _ _ _ k _ => k
def Expr.sub : Expr → List Query | .mk _ _ _ _ _ _ _ s => s
def bl (op : Int) : Int := if op = 1 then 1 else if op = 2 then 2 else if 3 ≤ op ∧ op ≤ 8 then 4 else if op = 9 then 5 else if op = 10 ∨ op = 11 then 6 else if 12 ≤ op ∧ op ≤ 14 then 7 else 0
def lv (k op : Int) : Int := if k = 4 then bl op else if k = 3 then (if op = 15 then 3 else if op = 16 then 8 else 0) else if 5 ≤ k ∧ k ≤ 8 then 4 else if k = 1 ∨ k = 2 ∨ k = 9 then 9 else 0
def lvE (e : Expr) : Int := lv e.kind e.op
theorem lv_bounds (k op : Int) : 0 ≤ lv k op ∧ lv k op ≤ 9 := by unfold lv bl; (repeat' split) <;> omega
def nd (kind op : Int) (k : Nat) : Int := if lv kind op = 0 ∨ lv kind op = 9 then 0 else if kind = 4 then (if lv kind op = 4 then 5 else if k = 0 then lv kind op else lv kind op + 1) else if kind = 3 then lv kind op else if kind = 7 ∧ 0 < k then 1 else 5
def wrapB (kind op : Int) (kids : List Expr) (k : Nat) : Bool := decide (lvE (kids.getD k (.mk 0 0 false ⟨0, 0, ⟨#[]⟩⟩ ⟨#[]⟩ ⟨#[]⟩ [] [])) < nd kind op k)
theorem binLevel_d (op : Int) : Cl Tryz.prog 164 [vi op] [] fun r _ => r = vi (bl op) := by
 refine cl_of_d follows_mixed false Tryz.func164 rfl (by kernel_rfl) ?_
 simp only [Tryz.f164, tt, seval]
 all_goals repeat' first | (refine And.intro (fun h => ?_) (fun h => ?_) <;> try simp only [tt, seval]) | (intro _; try simp only [tt, seval])
 all_goals first | contradiction | exact ⟨_, _, viE (by subst_vars; rfl), end0 rfl⟩ | exact ⟨_, _, viE (by unfold bl; (repeat' split) <;> omega), end0 rfl⟩
theorem iLevelOf_d (e : Expr) : Cl Tryz.prog 99 [.ag (csOf e.row)] [] fun r _ => r = vi (lvE e) := by
 obtain ⟨kind, op, not, val, qual, name, kids, sub⟩ := e
 rw [Expr.row_mk, lvE, Expr.kind, Expr.op]
 refine cl_of_d follows_mixed false Tryz.func99 rfl (by kernel_rfl) ?_
 simp only [Tryz.f99, tt, seval]
 refine And.intro (fun h4 => ?_) (fun h4 => ?_)
 ·skip
  refine cZ (binLevel_d op) (by decide) ?_ ?_ <;> simp only [tt, seval]
  exact ⟨_, _, viE (by rw [lv, if_pos h4]), end0 rfl⟩
 all_goals repeat' first | (refine And.intro (fun h => ?_) (fun h => ?_) <;> try simp only [tt, seval]) | (intro _; try simp only [tt, seval])
 all_goals exact ⟨_, _, viE (by unfold lv; (repeat' split) <;> omega), end0 rfl⟩
def lvT : List Int := [0, 1, 2, 4, 4, 4, 4, 4, 4, 5, 6, 6, 7, 7, 7]
theorem lvT_row : ([.lit (.int .i64 0), .lit (.int .i64 1), .lit (.int .i64 2), .lit (.int .i64 4), .lit (.int .i64 4), .lit (.int .i64 4), .lit (.int .i64 4), .lit (.int .i64 4), .lit (.int .i64 4), .lit (.int .i64 5), .lit (.int .i64 6), .lit (.int .i64 6), .lit (.int .i64 7), .lit (.int .i64 7), .lit (.int .i64 7)] : List D) = lvT.flatMap irow := rfl
theorem irow_len (n : Int) : (irow n).length = 1 := rfl
theorem irow_ne (v : Int) (r : List D) : irow v ++ r ≠ [] := fun h => by cases h
theorem lvT_get : ∀ n : Fin 15, 1 ≤ n.1 → lvT[n.1]'n.2 = bl n.1 := by decide
theorem LevelOf_d (e : Expr) : Cl Tryz.prog 122 [.ag (csOf e.row)] [] fun r _ => r = vi (lvE e) := by
 obtain ⟨kind, op, not, val, qual, name, kids, sub⟩ := e
 rw [Expr.row_mk, lvE, Expr.kind, Expr.op]
 refine cl_of_d follows_mixed false Tryz.func122 rfl (by kernel_rfl) ?_
 simp only [Tryz.f122, tt, seval]
 all_goals repeat' first | (refine And.intro (fun h => ?_) (fun h => ?_) <;> try simp only [tt, seval]) | (intro _; try simp only [tt, seval])
 all_goals first | contradiction | exact ⟨_, _, viE (by unfold lv; (repeat' split) <;> omega), end0 rfl⟩ | skip
 have h4 : kind = 4 := by assumption
 refine cZ (l1In_d op 1 14) (by decide) ?_ ?_ <;> simp only [tt, seval]
 refine And.intro (fun hc => ?_) (fun hc => ?_)
 ·have hc : 1 ≤ op ∧ op ≤ 14 := by simpa only [decide_eq_true_eq] using hc
  have hlt : op.toNat < lvT.length := by show _ < 15; omega
  refine ⟨by omega, by omega, ?_⟩
  rw [lvT_row, drop_row irow_len (List.getElem?_eq_getElem hlt)]
  simp only [tt, seval, irow]
  exact ⟨_, _, viE (by rw [lv, if_pos h4]; exact (lvT_get ⟨op.toNat, hlt⟩ (by show 1 ≤ op.toNat; omega)).trans (congrArg bl (Int.toNat_of_nonneg (show 0 ≤ op by omega)))), end0 rfl⟩
 ·exact ⟨_, _, viE (by rw [lv, if_pos h4]; unfold bl; have : ¬ (1 ≤ op ∧ op ≤ 14) := by simpa only [decide_eq_false_iff_not, decide_eq_true_eq] using hc
                       (repeat' split) <;> omega), end0 rfl⟩
theorem Needs_d (kind op : Int) (not : Bool) (val : Val) (qual name : ByteArray) (kids : List Expr) (sub : List Query) (k : Nat) (hk : k < kids.length) : Cl Tryz.prog 183 [.ag (csOf (Expr.mk kind op not val qual name kids sub).row), vi k] [] fun r _ => r = vi (nd kind op k) := by
 rw [Expr.row_mk]
 refine cl_of_d follows_mixed false Tryz.func183 rfl (by kernel_rfl) ?_
 simp only [Tryz.f183, tt, seval]
 refine cZ (LevelOf_d (Expr.mk kind op not val qual name kids sub)) (by decide) ?_ ?_ <;> simp only [tt, seval, Expr.row_mk, lvE, Expr.kind, Expr.op]
 have hb := lv_bounds kind op
 refine fun hlen => ?_
 rw [wrap_id (n := (kids.length : Int) - 1) (by omega) (by omega)]
 refine cZ (l1In_d k 0 (kids.length - 1)) (by decide) ?_ ?_ <;> simp only [tt, seval]
 simp only [tt, seval, decide_eq_true (show (0 : Int) ≤ k ∧ (k : Int) ≤ (kids.length : Int) - 1 by omega)]
 by_cases l0 : lv kind op = 0
 ·simp only [tt, seval, decide_eq_true l0]
  exact ⟨_, _, viE (by rw [nd, if_pos (Or.inl l0)]), end0 rfl⟩
 simp only [tt, seval, decide_eq_false l0]
 refine And.intro (fun l9 => ?_) (fun l9 => ?_)
 ·exact ⟨_, _, viE (by rw [nd, if_pos (Or.inr l9)]), end0 rfl⟩
 have e : nd kind op k = if kind = 4 then (if lv kind op = 4 then 5 else if k = 0 then lv kind op else lv kind op + 1) else if kind = 3 then lv kind op else if kind = 7 ∧ 0 < k then 1 else 5 := by rw [nd, if_neg (by omega)]
 rw [e, wrap_id (n := lv kind op + 1) (by omega) (by omega)]
 all_goals repeat' first | (refine And.intro (fun h => ?_) (fun h => ?_) <;> try simp only [tt, seval]) | (intro _; try simp only [tt, seval])
 all_goals first | contradiction | exact ⟨_, _, viE (by (repeat' split) <;> omega), end0 rfl⟩
theorem iNeeds_d (kind op : Int) (not : Bool) (val : Val) (qual name : ByteArray) (kids : List Expr) (sub : List Query) (k : Nat) (hk : k < kids.length) : Cl Tryz.prog 100 [.ag (csOf (Expr.mk kind op not val qual name kids sub).row), vi k] [] fun r _ => r = vi (nd kind op k) := by
 rw [Expr.row_mk]
 refine cl_of_d follows_mixed false Tryz.func100 rfl (by kernel_rfl) ?_
 simp only [Tryz.f100, tt, seval]
 refine cZ (iLevelOf_d (Expr.mk kind op not val qual name kids sub)) (by decide) ?_ ?_ <;> simp only [tt, seval, Expr.row_mk, lvE, Expr.kind, Expr.op]
 have hb := lv_bounds kind op
 simp only [tt, seval, decide_eq_false (show ¬ (k : Int) < 0 by omega)]
 refine fun hlen => ?_
 simp only [tt, seval, decide_eq_false (show ¬ (kids.length : Int) ≤ k by omega)]
 by_cases l0 : lv kind op = 0
 ·simp only [tt, seval, decide_eq_true l0]
  exact ⟨_, _, viE (by rw [nd, if_pos (Or.inl l0)]), end0 rfl⟩
 simp only [tt, seval, decide_eq_false l0]
 refine And.intro (fun l9 => ?_) (fun l9 => ?_)
 ·exact ⟨_, _, viE (by rw [nd, if_pos (Or.inr l9)]), end0 rfl⟩
 have e : nd kind op k = if kind = 4 then (if lv kind op = 4 then 5 else if k = 0 then lv kind op else lv kind op + 1) else if kind = 3 then lv kind op else if kind = 7 ∧ 0 < k then 1 else 5 := by rw [nd, if_neg (by omega)]
 rw [e]
 all_goals repeat' first | (refine And.intro (fun h => ?_) (fun h => ?_) <;> try simp only [tt, seval]) | (intro _; try simp only [tt, seval])
 all_goals try rw [wrap_id (n := lv kind op + (if (1 : Int) < k then 1 else (k : Int))) (by split <;> omega) (by split <;> omega)]
 all_goals first | contradiction | exact ⟨_, _, viE (by (repeat' split) <;> omega), end0 rfl⟩
theorem Wrapped_d (kind op : Int) (not : Bool) (val : Val) (qual name : ByteArray) (kids : List Expr) (sub : List Query) (k : Nat) (hk : k < kids.length) : Cl Tryz.prog 148 [.ag (csOf (Expr.mk kind op not val qual name kids sub).row), vi k] [] fun r _ => r = vb (wrapB kind op kids k) := by
 rw [Expr.row_mk]
 refine cl_of_d follows_mixed false Tryz.func148 rfl (by kernel_rfl) ?_
 simp only [Tryz.f148, tt, seval]
 refine dDrawn.intro [] (pln [0, 2, 4, 6, 8, 11, 12, 14, 16, 18, 20, 22, 26, 28, 25, 31, 32, 34, 36]) (by kernel_rfl) ?_
 simp only [tt, seval]
 refine fun hlen => ?_
 rw [wrap_id (n := (kids.length : Int) - 1) (by omega) (by omega)]
 refine cZ (l1In_d k 0 (kids.length - 1)) (by decide) ?_ ?_ <;> simp only [tt, seval]
 simp only [tt, seval, decide_eq_true (show (0 : Int) ≤ k ∧ (k : Int) ≤ (kids.length : Int) - 1 by omega)]
 refine ⟨by omega, by omega, _, drop_row Expr.row_len (List.getElem?_eq_getElem hk), Expr.ne _ _, ?_⟩
 simp only [seval, Expr.tk, Expr.row_len]
 refine cZ (LevelOf_d kids[k]) (by decide) ?_ ?_ <;> simp only [tt, seval]
 refine cZ (Needs_d kind op not val qual name kids sub k hk) (by decide) ?_ ?_ <;> simp only [tt, seval, Expr.row_mk]
 exact ⟨_, _, vbE (by rw [wrapB, List.getD_eq_getElem?_getD, List.getElem?_eq_getElem hk]; rfl), end0 rfl⟩
theorem iWrapped_d (kind op : Int) (not : Bool) (val : Val) (qual name : ByteArray) (kids : List Expr) (sub : List Query) (k : Nat) (hk : k < kids.length) : Cl Tryz.prog 42 [.ag (csOf (Expr.mk kind op not val qual name kids sub).row), vi k] [] fun r _ => r = vb (wrapB kind op kids k) := by
 rw [Expr.row_mk]
 refine cl_of_d follows_mixed false Tryz.func42 rfl (by kernel_rfl) ?_
 simp only [Tryz.f42, tt, seval]
 refine dDrawn.intro [] (pln [0, 2, 4, 6, 8, 10, 12, 14, 16, 18, 20, 22, 24, 26, 28, 32, 34, 31, 37, 38, 40, 42]) (by kernel_rfl) ?_
 simp only [tt, seval]
 simp only [tt, seval, decide_eq_true (show (0 : Int) ≤ k by omega)]
 refine fun hlen => ?_
 simp only [tt, seval, decide_eq_true (show (k : Int) < kids.length by omega)]
 refine ⟨by omega, by omega, _, drop_row Expr.row_len (List.getElem?_eq_getElem hk), Expr.ne _ _, ?_⟩
 simp only [seval, Expr.tk, Expr.row_len]
 refine cZ (iLevelOf_d kids[k]) (by decide) ?_ ?_ <;> simp only [tt, seval]
 refine cZ (iNeeds_d kind op not val qual name kids sub k hk) (by decide) ?_ ?_ <;> simp only [tt, seval, Expr.row_mk]
 exact ⟨_, _, vbE (by rw [wrapB, List.getD_eq_getElem?_getD, List.getElem?_eq_getElem hk]; rfl), end0 rfl⟩
end Go.Proofs.YtoegnikpokgbfaaGreatDoor
namespace Go.Cv
open Go Go.RowKit Go.Dv
open Go.Vc (zeroC guardSlot run_loadVar_agg vis vis_of_cell CellF RowF ValsF D inN okV callable wp_value wp_skipped tyS TS sizeTS elemS fieldOff fieldOff_spec add_lit0 run_v tyS_one run_loadVar_one underlying_run wp_loop_nat callFunc_run run_alloc_box inN inN_iff Plan dsts dstsOps Cells oneCell_eq)
abbrev K1 := Rg → World → Prop
abbrev KX := Exit → K1
def Rv : S → Value → Prop
 | .c (.v x), y => y = x
 | .c .dead, _ => True
 | .c (.fn g [] []), y => y = .func (.func g) #[] #[]
 | .ag _, _ => True
 | _, _ => False
structure CSim (n : Nat) (f : Rg) (a : Act) : Prop where
 size : a.tmps.size = n
 defers : a.defers = []
 slots : ∀ i, Rv (f i) (a.tmps.getD i undef)
def argsV : List S → Option (List Value)
 | [] => some []
 | .c (.v x) :: r => match argsV r with | some vs => some (x :: vs) | none => none
 | _ :: _ => none
def Stp (K : K1) (f : Rg) (w : World) : Prop := K f w
theorem Stp.go {K : K1} {f : Rg} {w : World} (h : K f w) : Stp K f w := h
def cCall (P : Program) (n : Nat) (d : Option Nat) (g : FuncId) (vs : List Value) (K : K1) : K1 := fun f w =>
 callable P g = true ∧ ∃ R : Value → World → Prop, Calls P g vs.toArray w (fun e w' => ∃ v, e = .returned v ∧ R v w') ∧ ∀ v w', R v w' → Stp K (put n f d (.c (.v v))) w'
def cLoad (P : Program) (n : Nat) (d : Option Nat) (t : TypeId) (ad : Addr) (K : K1) : K1 := fun f w =>
 tyS P t = .one ∧ ∃ v, w.cell? ad = some v ∧ K (put n f d (.c (.v v))) w
def cStore (P : Program) (n : Nat) (d : Option Nat) (t : TypeId) (ad : Addr) (v : Value) (K : K1) : K1 := fun f w =>
 tyS P t = .one ∧ Go.Vc.oneCell v = true ∧ (w.cell? ad).isSome = true ∧ w.frozen? ad = false ∧ ∃ w', w.setCell ad v = w' ∧ Stp K (put n f d (.c .dead)) w'
def cBox (P : Program) (n : Nat) (d : Option Nat) (t : TypeId) (vs : List Value) (K : K1) : K1 := fun f w =>
 ∀ b w', b = w.heap.size → w' = w.alloc (.cells vs.toArray t) → K (put n f d (.c (.v (.pointer (some ⟨b, 0, none⟩))))) w'
def cLoadA (n : Nat) (d : Option Nat) (k b off : Nat) (K : K1) : K1 := fun f w =>
 ∃ vs : List Value, vs.length = k ∧ Cells w b off vs ∧ K (put n f d (.c (.v (.agg vs.toArray)))) w
def cAlloc (n : Nat) (d : Option Nat) (t : TypeId) (z : List Value) (K : K1) : K1 := fun f w =>
 ∀ b w', b = w.heap.size → w' = w.alloc (.cells z.toArray t) → K (put n f d (.c (.v (.pointer (some ⟨b, 0, none⟩))))) w'
def cStoreA (n : Nat) (d : Option Nat) (b : Nat) (vs : List Value) (K : K1) : K1 := fun f w =>
 (∃ cur t fz, w.heap[b]? = some (.cells cur t fz) ∧ Lh cur.size fz ∧ vs.length = cur.size) ∧ (∀ v ∈ vs, v.oneCell' = true) ∧ ∃ w', w.setRow b vs.toArray = w' ∧ Stp K (put n f d (.c .dead)) w'
def cOp (P : Program) (n : Nat) (o : Oper) (K : K1) : K1 := fun f w =>
 match o.op with
 | .move x | .assign x => K (put n f o.dst (ev f x)) w
 | .binOp op t x y _ => (match ev f x, ev f y with
  | .c (.v a), .c (.v b) => dPure P n o.dst (do eqGuard op t x y a b; binOp op t a b) (fun f' _ _ => K f' w) f [] none
  | _, _ => False)
 | .unOp op _ x => (match ev f x with
  | .c (.v a) => dPure P n o.dst (Op.unary op a) (fun f' _ _ => K f' w) f [] none
  | _ => False)
 | .convert s t x => (match ev f x with
  | .c (.v a) => dPure P n o.dst (convert s t a) (fun f' _ _ => K f' w) f [] none
  | _ => False)
 | .extract x i => (match ev f x with
  | .c (.v (.tuple ys)) => ∃ v, ys[i]? = some v ∧ K (put n f o.dst (.c (.v v))) w
  | _ => False)
 | .indexAddr T x i => (match ev f x, ev f i, elemS P T with
  | .c (.v (.slice (some ⟨b, off, none⟩) ln _)), .c (.v (.int _ k)), some (_, sz, _) => 0 ≤ k ∧ k < ln ∧ K (put n f o.dst (.c (.v (.pointer (some ⟨b, off + k.toNat * sz, none⟩))))) w
  | _, _, _ => False)
 | .fieldAddr T x k => (match fieldOff P T k, ev f x with
  | some q, .c (.v (.pointer (some ⟨b, off, none⟩))) => K (put n f o.dst (.c (.v (.pointer (some ⟨b, off + q, none⟩))))) w
  | _, _ => False)
 | .nilCheck x => (match ev f x with
  | .c (.v (.pointer (some ad))) => K (put n f o.dst (.c (.v (.pointer (some ad))))) w
  | _ => False)
 | .load t x => (match ev f x with
  | .c (.v (.pointer (some ⟨b, off, none⟩))) => (match tyS P t with | .agg k => cLoadA n o.dst k b off K f w | _ => cLoad P n o.dst t ⟨b, off, none⟩ K f w)
  | _ => False)
 | .store t x y => (match ev f x, ev f y with
  | .c (.v (.pointer (some ⟨b, 0, none⟩))), .c (.v (.agg xs)) => tyS P t = .agg xs.size ∧ cStoreA n o.dst b xs.toList K f w
  | .c (.v (.pointer (some ⟨b, off, none⟩))), .c (.v v) => cStore P n o.dst t ⟨b, off, none⟩ v K f w
  | _, _ => False)
 | .alloc t => (match zeroD P t with | some z => cAlloc n o.dst t z K f w | none => False)
 | .pick x a b => (match ev f x with
  | .c (.v (.bool t)) => (t = true → K (put n f o.dst (ev f a)) w) ∧ (t = false → K (put n f o.dst (ev f b)) w)
  | _ => False)
 | .box t x => (match ev f x with
  | .c (.v (.agg xs)) => cBox P n o.dst t xs.toList K f w
  | _ => False)
 | .call c => (match c.callee with
  | .value g => (match ev f g, argsV (c.args.toList.map (ev f)) with
   | .c (.fn g [] []), some vs => cCall P n o.dst g vs K f w
   | _, _ => False)
  | .builtin .len => (match c.args.toList.map (ev f), c.argTypes.toList with
   | [.c (.v (.slice ad ln cap))], [T] => Go.Vc.lenK P T = 1 ∧ K (put n f o.dst (.c (.v (.int .i64 ln)))) w
   | [.c (.v (.string s))], [T] => Go.Vc.lenK P T = 2 ∧ K (put n f o.dst (.c (.v (.int .i64 s.size)))) w
   | _, _ => False)
  | _ => False)
 | _ => False
def cGuard (n : Nat) (ops : Array Oper) (o : Oper) (step : K1 → K1) (K : K1) : K1 := fun f w => match o.guard with
 | none => step K f w
 | some (j, want) => (match guardSlot ops j with
  | some g => (match f g with
   | .c (.v (.bool b)) => (b = want → step K f w) ∧ (b = (!want) → K (put n f o.dst (.c (.v (.tuple #[])))) w)
   | .c (.v (.tuple _)) => K (put n f o.dst (.c (.v (.tuple #[])))) w
   | _ => False)
  | none => False)
theorem cg0 (n : Nat) (ops : Array Oper) (T : K1 → K1) (Q : K1) (f : Rg) (w : World) (dst : Option Nat) (op : Op) (ty : TypeId) (pos : String) (af : Array Edge) : cGuard n ops ⟨dst, op, ty, pos, af, none⟩ T Q f w = T Q f w := rfl
theorem cg1 (n : Nat) (ops : Array Oper) (T : K1 → K1) (Q : K1) (f : Rg) (w : World) (dst : Option Nat) (op : Op) (ty : TypeId) (pos : String) (af : Array Edge) (j : Nat) (want : Bool) : cGuard n ops ⟨dst, op, ty, pos, af, some (j, want)⟩ T Q f w =
 (match guardSlot ops j with
 | some g => (match f g with
  | .c (.v (.bool b)) => (b = want → T Q f w) ∧ (b = (!want) → Q (put n f dst (.c (.v (.tuple #[])))) w)
  | .c (.v (.tuple _)) => Q (put n f dst (.c (.v (.tuple #[])))) w
  | _ => False)
 | none => False) := rfl
def cLoop (ws : List Nat) (body : KX → K1) (K : KX) : K1 := fun f w =>
 ∃ (I : Rg → World → Prop) (μ : Rg → World → Nat), I (mixR ws f f) w ∧
  ∀ g w2, I (mixR ws f g) w2 → body (fun e f' w' => match e with
   | .normal => I (mixR ws f f') w' ∧ μ (mixR ws f f') w' < μ (mixR ws f g) w2
   | e => K e f' w') (mixR ws f g) w2
structure Gr (w w' : World) : Prop where
 size : w.heap.size ≤ w'.heap.size
 keep : ∀ b, b < w.heap.size → w'.heap[b]? = w.heap[b]?
 os : w'.os = w.os
 tape : w'.tape = w.tape
 output : w'.output = w.output
section
variable {P : Program} {n : Nat} {f : Rg} {a : Act} {w : World} {K : K1} {Ka : Act → World → Prop} {Q : Exit → Act → World → Prop} {ops : Array Oper}
theorem ev_rv (h : CSim n f a) (x : Operand) : Rv (ev f x) (a.eval x) := by
 cases x with
 | tmp t => exact h.slots t
 | const v => cases v <;> first | rfl | trivial
 | global g => rfl
 | func g => rfl
theorem CSim.put (h : CSim n f a) (d : Option Nat) {x : S} {v : Value} (hv : Rv x v) : CSim n (Go.Dv.put n f d x) (a.put d v) where
 size := by rw [Go.Vc.Act.size_put]; exact h.size
 defers := by rw [Go.Vc.Act.defers_put]; exact h.defers
 slots := fun i => by
  cases d with
  | none => exact h.slots i
  | some d =>
   rw [Go.Vc.getD_put h.size]
   simp only [Go.Dv.put]
   by_cases hd : d < n
   ·simp only [hd, if_true, upd]
    by_cases hi : i = d
    ·simp [hi, hv]
    ·simp only [hi, false_and, if_false]; exact h.slots i
   ·simp only [hd, if_false, and_false]; exact h.slots i
theorem argsV_spec : ∀ {xs : List Operand} {vs : List Value}, CSim n f a → argsV (xs.map (ev f)) = some vs → xs.map a.eval = vs
 | [], vs, _, h => by simp [argsV] at h; simp [h]
 | x :: r, vs, hs, h => by
  have hx := ev_rv hs x
  simp only [List.map_cons] at h ⊢
  unfold argsV at h
  split at h
  ·rename_i e; simp at e
  ·rename_i z r' e
   injection e with e1 e2
   subst e2
   rw [e1] at hx
   split at h
   ·rename_i vs' hr
    injection h with h
    subst h
    rw [argsV_spec hs hr]; exact congrArg (· :: vs') hx
   ·cases h
  ·cases h
theorem kp_put (a : Act) (d : Option Nat) (v : Value) : ∀ j, j ∉ d.toList → (a.put d v).tmps.getD j undef = a.tmps.getD j undef := (keep_put (β := fun _ => none) a d v).tmps
theorem cPure_sound {o : Oper} {s : Sem Value} (hs : CSim n f a) (hr : ∀ w, (execOp a.eval o).run P w = ((do pure (Next.value (← s)) : Sem Next).run P w))
 (h : dPure P n o.dst s (fun f' _ _ => K f' w) f [] none) (hK : ∀ f' a' w', CSim n f' a' → (∀ j, j ∉ o.dst.toList → a'.tmps.getD j undef = a.tmps.getD j undef) → K f' w' → Ka a' w') : o.wp P a w Ka Q := by
 obtain ⟨v, hv, _, hk⟩ := h
 exact wp_value (v := v) (w' := w) (by rw [hr]; exact run_v (hv w)) (hK _ _ _ (hs.put o.dst (x := .c (.v v)) rfl) (kp_put _ _ _) hk)
theorem cOp_keep {o : Oper} (hs : CSim n f a) (h : cOp P n o K f w) (hK : ∀ f' a' w', CSim n f' a' → (∀ j, j ∉ o.dst.toList → a'.tmps.getD j undef = a.tmps.getD j undef) → K f' w' → Ka a' w') : o.wp P a w Ka Q := by
 unfold cOp at h
 split at h
 ·rename_i x ho
  exact wp_value (v := a.eval x) (w' := w) (by simp [execOp, ho]) (hK _ _ _ (hs.put o.dst (ev_rv hs x)) (kp_put _ _ _) h)
 ·rename_i x ho
  exact wp_value (v := a.eval x) (w' := w) (by simp [execOp, ho]) (hK _ _ _ (hs.put o.dst (ev_rv hs x)) (kp_put _ _ _) h)
 ·rename_i op t x y pos ho
  have hx := ev_rv hs x
  have hy := ev_rv hs y
  split at h
  ·rename_i u v e1 e2
   rw [e1] at hx; rw [e2] at hy
   have hx : a.eval x = u := hx
   have hy : a.eval y = v := hy
   exact cPure_sound hs (fun w' => by simp [execOp, ho, hx, hy]) h hK
  ·exact h.elim
 ·rename_i op pos x ho
  have hx := ev_rv hs x
  split at h
  ·rename_i u e1
   rw [e1] at hx
   have hx : a.eval x = u := hx
   exact cPure_sound hs (fun w' => by simp [execOp, ho, hx]) h hK
  ·exact h.elim
 ·rename_i s t x ho
  have hx := ev_rv hs x
  split at h
  ·rename_i u e1
   rw [e1] at hx
   have hx : a.eval x = u := hx
   exact cPure_sound hs (fun w' => by simp [execOp, ho, hx]) h hK
  ·exact h.elim
 ·rename_i x i ho
  have hx := ev_rv hs x
  split at h
  ·rename_i ys e1
   rw [e1] at hx
   have hx : a.eval x = .tuple ys := hx
   obtain ⟨v, hv, hk⟩ := h
   exact wp_value (v := v) (w' := w) (by simp [execOp, ho, hx, Instr.extract, hv]) (hK _ _ _ (hs.put o.dst (x := .c (.v v)) rfl) (kp_put _ _ _) hk)
  ·exact h.elim
 ·rename_i T x i ho
  have hx := ev_rv hs x
  have hi := ev_rv hs i
  split at h
  ·rename_i b off ln cp kk k e sz by' e1 e2 hel
   rw [e1] at hx; rw [e2] at hi
   have hx : a.eval x = _ := hx
   have hi : a.eval i = _ := hi
   obtain ⟨h0, h1, h⟩ := h
   obtain ⟨hu, inf, hinf, hsz, _⟩ := Go.Vc.elemS_spec hel
   have hrun : (execOp a.eval o).run P w = .ok (.value (.pointer (some (Addr.add ⟨b, off, none⟩ (k.toNat * sz))))) w := by
    simp [execOp, ho, Instr.indexAt, hi, asIntOf, underlying_run hu, hx, h0, h1, sizeOf, typeInfo, hinf, hsz]
   rw [add_lit0] at hrun
   exact wp_value hrun (hK _ _ _ (hs.put o.dst (x := .c (.v _)) rfl) (kp_put _ _ _) h)
  ·exact h.elim
 ·rename_i T x k ho
  have hx := ev_rv hs x
  split at h
  ·rename_i q b off hq e1
   rw [e1] at hx
   have hx : a.eval x = _ := hx
   have := fieldOff_spec hq ⟨b, off, none⟩ w
   rw [add_lit0] at this
   exact wp_value (v := .pointer (some ⟨b, off + q, none⟩)) (w' := w) (by simp only [execOp, ho, hx]; exact run_v this) (hK _ _ _ (hs.put o.dst (x := .c (.v _)) rfl) (kp_put _ _ _) h)
  ·exact h.elim
 ·rename_i x ho
  have hx := ev_rv hs x
  split at h
  ·rename_i ad e1
   rw [e1] at hx
   have hx : a.eval x = _ := hx
   exact wp_value (v := .pointer (some ad)) (w' := w) (by simp [execOp, ho, hx]) (hK _ _ _ (hs.put o.dst (x := .c (.v _)) rfl) (kp_put _ _ _) h)
  ·exact h.elim
 ·rename_i t x ho
  have hx := ev_rv hs x
  split at h
  ·rename_i b off e1
   rw [e1] at hx
   have hx : a.eval x = _ := hx
   split at h
   ·rename_i k ht
    obtain ⟨vs, hl, hc, hk⟩ := h
    have hl := run_loadVar_agg (P := P) (w := w) ht (ad := ⟨b, off, none⟩) (vs := vs) hl (fun j v hj => by rw [add_lit0]; exact hc j v hj)
    exact wp_value (v := .agg vs.toArray) (w' := w) (by simp [execOp, ho, Instr.loadAt, Instr.sureAddr, hx, hl]) (hK _ _ _ (hs.put o.dst (x := .c (.v _)) rfl) (kp_put _ _ _) hk)
   ·obtain ⟨ht, v, hv, hk⟩ := h
    have hl := run_loadVar_one (P := P) (w := w) ht (ad := ⟨b, off, none⟩) (v := v) hv
    exact wp_value (v := v) (w' := w) (by simp [execOp, ho, Instr.loadAt, Instr.sureAddr, hx, hl]) (hK _ _ _ (hs.put o.dst (x := .c (.v v)) rfl) (kp_put _ _ _) hk)
  ·exact h.elim
 ·rename_i t x y ho
  have hx := ev_rv hs x
  have hy := ev_rv hs y
  split at h
  ·rename_i b xs e1 e2
   rw [e1] at hx; rw [e2] at hy
   have hx : a.eval x = _ := hx
   have hy : a.eval y = .agg xs := hy
   obtain ⟨ht, ⟨cur, tt, fz, hh, hlh, hlen⟩, hone, _, rfl, hk⟩ := h
   have hst := run_storeCells_lh P b 0 tt fz xs.toList 0 cur w hh hlh (by omega) hone
   have e : (cur.toList.take (0 + 0) ++ xs.toList ++ cur.toList.drop (0 + 0 + xs.toList.length)).toArray = xs.toList.toArray := by
    rw [List.drop_eq_nil_of_le (by rw [hlen]; simp)]; simp
   rw [e] at hst
   exact wp_skipped (Go.Vc.store_run (w' := w.setRow b xs.toList.toArray) ho hx (by rw [hy, ht]; simp [Value.cells, Go.Vc.sizeTS]) (by rw [ht]; simp) (by rw [hy]; simpa [Value.cells] using hst)) (hK _ _ _ (hs.put o.dst (x := .c .dead) trivial) (kp_put _ _ _) hk)
  ·rename_i b off v _ e1 e2
   rw [e1] at hx; rw [e2] at hy
   have hx : a.eval x = _ := hx
   have hy : a.eval y = v := hy
   obtain ⟨ht, h1, hc, hf, _, rfl, hk⟩ := h
   have hsz : v.cells.size = 1 := by cases v <;> first | rfl | cases h1
   have hcl : v.cells.toList = [v] := by cases v <;> first | rfl | cases h1
   have hst : (storeCells ⟨b, off, none⟩ [v]).run P w = .ok () (w.setCell ⟨b, off, none⟩ v) := by
    have := Go.Vc.run_storeCells_mem (P := P) [v] ⟨b, off, none⟩ 0 w rfl (by simpa using h1) (fun j hj => by
     obtain rfl : j = 0 := by simpa using hj
     simpa [add_lit0] using ⟨hc, hf⟩)
    simpa [Go.Vc.setCells, add_lit0] using this
   exact wp_skipped (Go.Vc.store_run (w' := w.setCell ⟨b, off, none⟩ v) ho hx (by rw [hy, hsz, ht]; rfl) (by rw [ht]; simp) (by rw [hy, hcl]; exact hst)) (hK _ _ _ (hs.put o.dst (x := .c .dead) trivial) (kp_put _ _ _) hk)
  ·exact h.elim
 ·rename_i t ho
  split at h
  ·rename_i z hz
   obtain ⟨v, hv, hc⟩ := Go.Vc.zeroC_run (zeroD_spec hz).1 w
   refine wp_value (v := .pointer (some ⟨w.heap.size, 0, none⟩)) (w' := w.alloc (.cells z.toArray t)) ?_ (hK _ _ _ (hs.put o.dst (x := .c (.v _)) rfl) (kp_put _ _ _) (h _ _ rfl rfl))
   rw [← hc]
   simp [execOp, ho, Instr.alloc, hv, run_alloc_box]
  ·exact h.elim
 ·rename_i x u v ho
  have hx := ev_rv hs x
  split at h
  ·rename_i t e1
   rw [e1] at hx
   have hx : a.eval x = .bool t := hx
   cases t with
   | true => exact wp_value (v := a.eval u) (w' := w) (by simp [execOp, ho, hx, asBool]) (hK _ _ _ (hs.put o.dst (ev_rv hs u)) (kp_put _ _ _) (h.1 rfl))
   | false => exact wp_value (v := a.eval v) (w' := w) (by simp [execOp, ho, hx, asBool]) (hK _ _ _ (hs.put o.dst (ev_rv hs v)) (kp_put _ _ _) (h.2 rfl))
  ·exact h.elim
 ·rename_i t x ho
  have hx := ev_rv hs x
  split at h
  ·rename_i xs e1
   rw [e1] at hx
   have hx : a.eval x = .agg xs := hx
   refine wp_value (v := .pointer (some ⟨w.heap.size, 0, none⟩)) (w' := w.alloc (.cells xs.toList.toArray t)) ?_ (hK _ _ _ (hs.put o.dst (x := .c (.v _)) rfl) (kp_put _ _ _) (h _ _ rfl rfl))
   simp [execOp, ho, hx, Instr.box, run_alloc_box, Value.cells]
  ·exact h.elim
 ·rename_i cc ho
  split at h
  ·rename_i g hg
   split at h
   ·rename_i gid vs e1 e2
    obtain ⟨hcl, R, hR, hk⟩ := h
    have hge : a.eval g = .func (.func gid) #[] #[] := by have := ev_rv hs g; rw [e1] at this; exact this
    have hargs := argsV_spec hs e2
    have hrun : (execOp a.eval o).run P w = .ok (.enter gid vs.toArray) w := by
     have he : cc.args.map a.eval = vs.toArray := by rw [← hargs, ← Array.toList_map]
     simp [execOp, ho, resolve, hg, hge, Deferred.ofValue, invoke, callFunc_run hcl, he]
    unfold Oper.wp
    rw [hrun, Oper.upon_enter]
    refine hR.mono ?_
    rintro e w' ⟨v, rfl, hv⟩
    exact hK _ _ _ (hs.put o.dst (x := .c (.v v)) rfl) (kp_put _ _ _) (hk v w' hv)
   ·exact h.elim
  ·rename_i hg
   split at h
   ·rename_i ad ln cap T e1 e2
    obtain ⟨hT, hk⟩ := h
    obtain ⟨x, hx, hev⟩ := Go.Vc.map1 e1
    have ha := Go.Vc.arr1 hx
    have ht := Go.Vc.arr1 e2
    have hr := ev_rv hs x
    rw [hev] at hr
    have hr : a.eval x = _ := hr
    have hu : ∃ e, P.underlying T = some (.slice e) := by
     unfold Go.Vc.lenK at hT
     split at hT
     ·rename_i e he; exact ⟨e, he⟩
     ·cases hT
     ·cases hT
    exact wp_value (v := .int .i64 ln) (w' := w) (Go.Vc.len_run ho hg ha ht (.inl ⟨_, _, _, hr, rfl, hu⟩)) (hK _ _ _ (hs.put o.dst (x := .c (.v _)) rfl) (kp_put _ _ _) hk)
   ·rename_i u T e1 e2
    obtain ⟨hT, hk⟩ := h
    obtain ⟨x, hx, hev⟩ := Go.Vc.map1 e1
    have ha := Go.Vc.arr1 hx
    have ht := Go.Vc.arr1 e2
    have hr := ev_rv hs x
    rw [hev] at hr
    have hr : a.eval x = _ := hr
    have hu : P.underlying T = some .string := by
     unfold Go.Vc.lenK at hT
     split at hT
     ·cases hT
     ·assumption
     ·cases hT
    exact wp_value (v := .int .i64 u.size) (w' := w) (Go.Vc.len_run ho hg ha ht (.inr ⟨_, hr, rfl, hu⟩)) (hK _ _ _ (hs.put o.dst (x := .c (.v _)) rfl) (kp_put _ _ _) hk)
   ·exact h.elim
  ·exact h.elim
 ·exact h.elim
def Kp (ws : List Nat) (a a' : Act) : Prop := ∀ j, j ∉ ws → a'.tmps.getD j undef = a.tmps.getD j undef
theorem Kp.refl (ws : List Nat) (a : Act) : Kp ws a a := fun _ _ => rfl
theorem Kp.trans {ws : List Nat} {a b c : Act} (h : Kp ws a b) (k : Kp ws b c) : Kp ws a c := fun j hj => (k j hj).trans (h j hj)
theorem Kp.mono {ws us : List Nat} {a b : Act} (h : Kp ws a b) (k : ∀ j ∈ ws, j ∈ us) : Kp us a b := fun j hj => h j fun e => hj (k j e)
theorem rv_kS {ws : List Nat} {s : S} {y : Value} (h : Rv s y) : Rv (kS ws [] s) y := by
 cases s with
 | c x =>
  cases x with
  | fn g p q => cases p <;> cases q <;> simp_all [Rv, kS, kC, hitL]
  | _ => simp_all [Rv, kS, kC]
 | ag cs => exact trivial
 | tu xs => exact h.elim
def cRet (rs : List ResultVar) (R : Value → World → Prop) : K1 := fun f w => match rs with
 | [.tmp t] => (match f t with | .c (.v x) => R x w | _ => False)
 | _ => False
def cEnd (rs : List ResultVar) (R : Value → World → Prop) : KX
 | .normal | .ret => cRet rs R
 | _ => fun _ _ => False
def regsV : List Value → Rg
 | [] => fun _ => .c .dead
 | v :: vs => fun i => match i with | 0 => .c (.v v) | i + 1 => regsV vs i
theorem regsV_rv (k : Nat) : ∀ (vs : List Value) (i : Nat), Rv (regsV vs i) ((vs ++ List.replicate k undef)[i]?.getD undef)
 | [], _ => trivial
 | v :: vs, 0 => rfl
 | v :: vs, i + 1 => by simpa [regsV] using regsV_rv k vs i
end
end Go.Cv
namespace Go.Cv
open Go Go.RowKit Go.Dv
open Go.Vc (vis vis_of_cell CellF RowF ValsF D okV Cells Chg Grow setCells add_lit0)
theorem Gr.trans {a b c : World} (h : Gr a b) (k : Gr b c) : Gr a c :=
 ⟨Nat.le_trans h.size k.size, fun i hi => (k.keep i (Nat.lt_of_lt_of_le hi h.size)).trans (h.keep i hi), k.os.trans h.os, k.tape.trans h.tape, k.output.trans h.output⟩
theorem vis_lt {w : World} {b : Nat} (h : Go.Vc.vis w b) : b < w.heap.size := by
 obtain ⟨o, ho, _⟩ := h
 exact (Array.getElem?_eq_some_iff.1 ho).1
theorem Gr.grow {w w' : World} (h : Gr w w') : Grow w w' := ⟨fun b hb => h.keep b (vis_lt hb), h.os, h.tape, h.output⟩
structure ChL (F : List Nat) (w w' : World) : Prop where
 chg : Chg F w w'
 size : w.heap.size ≤ w'.heap.size
 keep : ∀ b, b < w.heap.size → b ∉ F → w'.heap[b]? = w.heap[b]?
theorem ChL.store {w : World} {b o : Nat} {v : Value} : ChL [b] w (w.setCell ⟨b, o, none⟩ v) := ⟨Chg.store, by rw [World.size_setCell]; exact Nat.le_refl _, fun x _ hx => Go.heap_setCell_other w ⟨b, o, none⟩ x v (by simpa using hx)⟩
theorem ChL.refl (F : List Nat) (w : World) : ChL F w w := ⟨Chg.refl _ _, Nat.le_refl _, fun _ _ _ => rfl⟩
theorem ChL.trans {F : List Nat} {a b c : World} (h : ChL F a b) (k : ChL F b c) : ChL F a c :=
 ⟨h.chg.trans k.chg, Nat.le_trans h.size k.size, fun x hx hn => (k.keep x (Nat.lt_of_lt_of_le hx h.size) hn).trans (h.keep x hx hn)⟩
theorem ChL.mono {F G : List Nat} {a b : World} (h : ChL F a b) (hs : ∀ x ∈ F, x ∈ G) : ChL G a b := ⟨h.chg.mono hs, h.size, fun x hx hn => h.keep x hx fun e => hn (hs x e)⟩
theorem Gr.chl {a b : World} (h : Gr a b) (F : List Nat) : ChL F a b := ⟨h.grow.chg F, h.size, fun x hx _ => h.keep x hx⟩
theorem Gr.chl_trans {w a b : World} {F : List Nat} (h : Gr w a) (k : ChL F a b) (hf : ∀ x ∈ F, w.heap.size ≤ x) : Gr w b :=
 ⟨Nat.le_trans h.size k.size, fun x hx => (k.keep x (Nat.lt_of_lt_of_le hx h.size) fun e => by have := hf x e; omega).trans (h.keep x hx), k.chg.os.trans h.os, k.chg.tape.trans h.tape, k.chg.output.trans h.output⟩
def OwnL (m : World) (F : List Nat) : Prop := ∀ b ∈ F, ∃ cs t lh, m.heap[b]? = some (.cells cs t lh) ∧ Lh cs.size lh
theorem OwnL.nil (m : World) : OwnL m [] := fun _ h => by cases h
theorem vis_of_ownL {m : World} {b : Nat} (h : ∃ cs t lh, m.heap[b]? = some (.cells cs t lh) ∧ Lh cs.size lh) : vis m b := by
 obtain ⟨cs, t, lh, h, _⟩ := h; exact ⟨_, h, by simp [Go.Vc.hid]⟩
theorem OwnL.vis {m : World} {F : List Nat} (h : OwnL m F) : ∀ b ∈ F, Go.Vc.vis m b := fun b hb => vis_of_ownL (h b hb)
theorem OwnL.app {m : World} {F G : List Nat} (h : OwnL m F) (k : OwnL m G) : OwnL m (F ++ G) := fun b hb => (List.mem_append.1 hb).elim (h b) (k b)
theorem OwnL.frozen {m : World} {F : List Nat} (h : OwnL m F) {b o : Nat} (hb : b ∈ F) (hc : (m.cell? ⟨b, o, none⟩).isSome = true) : m.frozen? ⟨b, o, none⟩ = false := by
 obtain ⟨cs, t, ⟨lo, hi⟩, e, hl⟩ := h _ hb
 have ho : o < cs.size := by
  unfold World.cell? at hc
  rw [e] at hc
  simpa using hc
 have := hl o ho
 simp only [World.frozen?, e, Bool.and_eq_false_iff, decide_eq_false_iff_not]
 simp only at this
 omega
theorem OwnL.sub {F G : List Nat} {m : World} (h : OwnL m F) (hs : ∀ b ∈ G, b ∈ F) : OwnL m G := fun b hb => h b (hs b hb)
end Go.Cv
namespace Go.Cv
open Go Go.RowKit Go.Dv
open Go.Vc (vis vis_of_cell CellF RowF ValsF D okV Cells Chg Grow add_lit0 callable)
variable [Out]
structure New (w w' : World) (G : List Nat) : Prop where
 nodup : G.Nodup
 new : ∀ b ∈ G, w.heap.size ≤ b
 own : OwnL w' G
def Res (P : Program) (w w' : World) (r : S) (v : Value) : Prop :=
 ∃ β ok, RelS P w' β ok (expS 9700 r) v ∧ (∀ b, ok b → ¬ ownB (back r []) β b) ∧ (∀ i o, Go.Dv.look (back r []) i = some o → RelO P w' β ok i o) ∧ (∀ b, ownB (back r []) β b → w.heap.size ≤ b) ∧
  (fps r []).flatten.Nodup ∧ (∀ b ∈ (fps r []).flatten, w.heap.size ≤ b ∧ ∃ cs t lh, w'.heap[b]? = some (.cells cs t lh) ∧ Lh cs.size lh)
section
variable {P : Program} {w w' : World}
theorem Cl.at {g : FuncId} {args : List S} {R : S → List (List C) → Prop} (h : Cl P g args [] R) (hp : plainL (args.flatMap cellsS) = true) {vs : List Value}
 (hv : RelA P w (fun _ => none) (fun _ => True) args vs) (hg : GlW w (fun _ => False)) :
 callable P g = true ∧ Calls P g vs.toArray w fun e w' => ∃ v, e = .returned v ∧ ∃ r, R r [] ∧ Gr w w' ∧ Res P w w' r v := by
 obtain ⟨e1, e2⟩ := plain_args 9500 hp
 have el : lent args [] = [] := by simp [lent, e2, expB]
 have hno : ∀ β b, ¬ ownB [] β b := fun β b ⟨i, o, h1, _⟩ => by simp [Go.Dv.look] at h1
 have hok : okA (fun _ => True) (lent args []) (fun _ => none) = fun _ => True := by
  funext b
  simp [okA, el, hno]
 refine ⟨h.1, (h.2 w (fun _ => none) (fun _ => True) vs ?_ ?_ ?_).mono ?_⟩
 ·rw [e1, hok]; exact hv
 ·rw [el]; exact ⟨fun i o hl => by simp [Go.Dv.look] at hl, fun i j o o' b hl => by simp [Go.Dv.look] at hl⟩
 ·exact hg.mono (fun _ _ _ => rfl) fun b hb _ => by rw [el] at hb; exact (hno _ _ hb).elim
 ·rintro e W' ⟨v, r, objs, β, rfl, hR, hP⟩
  have ho : objs = [] := List.eq_nil_of_length_eq_zero (by simpa using hP.len)
  subst ho
  refine ⟨v, rfl, r, hR, ⟨hP.tr.size, fun b hb => hP.tr.keep b hb (by rw [el]; exact hno _ b), hP.outer.1, hP.outer.2.1, hP.outer.2.2⟩, β, _, hP.rel, fun b hb => hb.1, hP.obs.rel, fun b hb => ?_, hP.fresh.1, fun b hb => ?_⟩
  ·by_cases hlt : b < w.heap.size
   ·have := hP.tr.own b hlt hb
    rw [el] at this; exact (hno _ _ this).elim
   ·omega
  ·obtain ⟨h1, h2, _⟩ := hP.fresh.2 b hb
   refine ⟨h1.elim id fun h => ?_, h2⟩
   rw [el] at h; exact (hno _ _ h).elim
theorem Res.val {x v : Value} (h : Res P w w' (.c (.v x)) v) : v = x := by
 obtain ⟨β, ok, h, _⟩ := h
 exact h.1
theorem csOf_vals {ok : Nat → Prop} {β : Nat → Option Nat} : ∀ {ds : List D} {vs : List Value}, (∀ d ∈ ds, ∀ x, d = .lit x → True) → RelL P w β ok (csOf ds) vs → ∃ G, ValsF w ds vs G
 | [], [], _, _ => ⟨[], rfl⟩
 | [], _ :: _, _, h => h.elim
 | _ :: _, [], _, h => h.elim
 | .lit x :: ds, v :: vs, hh, h => by
  obtain ⟨G, hG⟩ := csOf_vals (fun d hd => hh d (by simp [hd])) h.2
  obtain ⟨h1, h2⟩ := (show v = x ∧ okV x from h.1)
  subst h1
  exact ⟨G, [], G, ⟨rfl, rfl, h2⟩, hG, by simp⟩
 | .sl n es :: ds, v :: vs, hh, h => by
  obtain ⟨G, hG⟩ := csOf_vals (fun d hd => hh d (by simp [hd])) h.2
  obtain ⟨H, h1, _⟩ := h.1
  exact ⟨H ++ G, H, G, h1, hG, rfl⟩
theorem expC_csOf (b : Nat) : ∀ ds : List D, expC b (csOf ds) = csOf ds
 | [] => rfl
 | d :: ds => by cases d <;> simp [csOf, cOf, expC, expC_csOf (b + 10000) ds]
theorem Res.ag {ds : List D} {v : Value} (h : Res P w w' (.ag (csOf ds)) v) : ∃ vs G, v = .agg (vs : List Value).toArray ∧ ValsF w' ds vs G := by
 obtain ⟨β, ok, h, _⟩ := h
 simp only [expS, expC_csOf] at h
 obtain ⟨vs, rfl, h⟩ := h
 obtain ⟨G, hG⟩ := csOf_vals (fun _ _ _ _ => trivial) h
 exact ⟨vs, G, rfl, hG⟩
structure Td (cs : List C) (ds : List D) (F : List (List Nat)) : Prop where
 exp : ∀ b, expC b cs = cs
 obj : ∀ b, expO b cs = []
 dat : dsOf cs = some (ds, some F)
 fp : fpL cs = F
 flat : flatL cs = true
 good : cs.all goodC = true
 kill : ∀ a b, kCs a b cs = cs
 frz : ∀ i n x, fCs i n x cs = cs
 owns : ownsC cs = none
 len : cs.length = ds.length
theorem Res.tdw {cs : List C} {ds : List D} {F : List (List Nat)} {v : Value} (ht : Td cs ds F) (h : Res P w w' (.ag cs) v) : ∃ vs G, v = .agg (vs : List Value).toArray ∧ ValsF w' ds vs G ∧ New w w' G ∧ WhL w' ds vs := by
 obtain ⟨β, ok, h, hno, hobj, hnew, hnd, hfr⟩ := h
 simp only [expS, ht.exp] at h
 obtain ⟨vs, rfl, h⟩ := h
 have hf : fps (.ag cs) [] = F := by simp [fps, cellsS, ht.fp, fpB]
 rw [hf] at hnd hfr
 obtain ⟨G, hG, hok, hs⟩ := dsOf_rel ht.dat h
 exact ⟨vs, G, rfl, hG, ⟨(hs _ rfl).1.nodup hnd, fun b hb => (hfr b ((hs _ rfl).1.mem hb)).1, fun b hb => (hfr b ((hs _ rfl).1.mem hb)).2⟩, (hs _ rfl).2⟩
end
theorem glw_gr {w w' : World} (h : Gr w w') (hg : GlW w (fun _ => False)) : GlW w' (fun _ => False) := hg.mono (fun b hb _ => h.keep b hb) fun _ h _ => h
theorem vals_cons {w : World} {d : D} {ds : List D} {vs : List Value} {F : List Nat} (h : ValsF w (d :: ds) vs F) : ∃ v r F1 R, vs = v :: r ∧ CellF w d v F1 ∧ ValsF w ds r R ∧ F = F1 ++ R := by
 cases vs with
 | nil => exact h.elim
 | cons v r => obtain ⟨F1, F2, h1, h2, h3⟩ := h; exact ⟨v, r, F1, F2, rfl, h1, h2, h3⟩
theorem vals_nil {w : World} {vs : List Value} {F : List Nat} (h : ValsF w [] vs F) : vs = [] ∧ F = [] := by
 cases vs with
 | nil => exact ⟨rfl, h⟩
 | cons _ _ => exact h.elim
theorem vals_cons_mk {w : World} {d : D} {ds : List D} {v : Value} {r : List Value} {F R : List Nat} (h : CellF w d v F) (k : ValsF w ds r R) : ValsF w (d :: ds) (v :: r) (F ++ R) := ⟨F, R, h, k, rfl⟩
theorem vals_nil_mk {w : World} : ValsF w [] [] [] := rfl
theorem lit_cell {w : World} {v : Value} (h : okV v) : CellF w (.lit v) v [] := ⟨rfl, rfl, h⟩
theorem box_new {w w' : World} {b : Nat} {cs : Array Value} {t : TypeId} (hb : b = w.heap.size) (hw : w' = w.alloc (.cells cs t)) : w'.heap[b]? = some (.cells cs t (0, 0)) ∧ Gr w w' := by
 subst hb hw
 exact ⟨Go.heap_alloc_new w _, by simp, fun x hx => Go.heap_alloc_old w _ hx, rfl, rfl, rfl⟩
theorem box_cell {w : World} {b : Nat} {cs : Array Value} {t : TypeId} {lh : Nat × Nat} (h : w.heap[b]? = some (.cells cs t lh)) {j : Nat} {v : Value} (hv : cs[j]? = some v) : w.cell? ⟨b, j, none⟩ = some v := by
 rw [cell_of_row w b j cs t lh h]; exact hv
def told : List D → List (List (List Nat)) → List C
 | .lit v :: r, Fs => .v v :: told r Fs
 | .sl n ds :: r, F :: Fs => .sl n ds (some F) :: told r Fs
 | .sl n ds :: r, [] => .sl n ds none :: told r []
 | [], _ => []
def tOk : List D → Nat → Bool
 | .lit (.slice ..) :: _, _ => false
 | .lit (.agg ..) :: _, _ => false
 | .lit (.tuple ..) :: _, _ => false
 | .lit _ :: r, k => tOk r k
 | .sl .. :: r, k + 1 => tOk r k
 | .sl .. :: _, 0 => false
 | [], k => k == 0
theorem told_td : ∀ (ds : List D) (Fs : List (List (List Nat))), tOk ds Fs.length = true → Td (told ds Fs) ds Fs.flatten
 | [], [], _ => ⟨fun _ => rfl, fun _ => rfl, rfl, rfl, rfl, rfl, fun _ _ => rfl, fun _ _ _ => rfl, rfl, rfl⟩
 | [], _ :: _, h => by simp [tOk] at h
 | .sl n es :: r, [], h => by simp [tOk] at h
 | .sl n es :: r, F :: Fs, h => by
  have t := told_td r Fs (by simpa [tOk] using h)
  exact ⟨fun b => by simp [told, expC, t.exp], fun b => by simp [told, expO, t.obj], by simp [told, dsOf, dOf, t.dat, joinF], by simp [told, fpL, fpC, t.fp], by simp [told, flatL, flatC, t.flat], by simp [told, goodC, t.good], fun a b => by simp [told, kCs, kC, t.kill], fun i m x => by simp [told, fCs, fC, t.frz], by simp [told, ownsC, t.owns], by simp [told, t.len]⟩
 | .lit v :: r, Fs, h => by
  have t := told_td r Fs (by cases v <;> simp_all [tOk])
  have hd : dOf (.v v) = some (.lit v, some []) := by cases v <;> first | rfl | simp [tOk] at h
  have hg : goodC (.v v) = true := by cases v <;> first | rfl | simp [tOk] at h
  exact ⟨fun b => by simp [told, expC, t.exp], fun b => by simp [told, expO, t.obj], by simp [told, dsOf, hd, t.dat, joinF], by simp [told, fpL, fpC, t.fp], by simp [told, flatL, flatC, t.flat], by simp [told, hg, t.good], fun a b => by simp [told, kCs, kC, t.kill], fun i m x => by simp [told, fCs, fC, t.frz], by simp [told, ownsC, t.owns], by simp [told, t.len]⟩
theorem pool_ok {F G : List Nat} (h : ∀ x, F.count x ≤ G.count x) : Sb F G := h
end Go.Cv
set_option maxRecDepth 8000
namespace Go.Proofs.YtoegnikpokgbfaaGreatDoor
open Go Go.Dv
open Go.Vc (D shrI xorI andI and255)
theorem idxH {α : Type} {row : α → List D} {w : Nat} {l r : List α} {x : α} (h : l = x :: r) (hl : ∀ x, (row x).length = w + 1) (C : List D → Prop) : (∃ ds', l.flatMap row = ds' ∧ ¬ ds' = [] ∧ C ds') = C (row x ++ r.flatMap row) := by
 subst h
 rw [List.flatMap_cons]
 exact propext ⟨fun ⟨_, h1, _, h3⟩ => h1 ▸ h3, fun h => ⟨_, rfl, fun h0 => by have := congrArg List.length h0; rw [List.length_append, hl] at this; simp at this, h⟩⟩
theorem idxAt {α : Type} {row : α → List D} {w : Nat} {l : List α} {i : Nat} {x : α} (hx : l[i]? = some x) (hl : ∀ x, (row x).length = w + 1) (C : List D → Prop) : (∃ ds', (l.flatMap row).drop (i * (w + 1)) = ds' ∧ ¬ ds' = [] ∧ C ds') = C (row x ++ (l.drop (i + 1)).flatMap row) := by
 rw [drop_row hl hx]
 exact propext ⟨fun ⟨_, h1, _, h3⟩ => h1 ▸ h3, fun h => ⟨_, rfl, fun h0 => by have := congrArg List.length h0; rw [List.length_append, hl] at this; simp at this, h⟩⟩
end Go.Proofs.YtoegnikpokgbfaaGreatDoor
