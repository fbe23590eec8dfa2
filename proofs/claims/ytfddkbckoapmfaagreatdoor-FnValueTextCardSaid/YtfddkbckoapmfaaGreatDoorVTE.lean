/-
  The lexers.
  Conditions: none.
-/
import Derived.Test.YtfddkbckoapmfaaGreatDoorVTB1
import Derived.Shelf.Strings.Search3
import Derived.Shelf.Strings.Prefix
import Derived.Shelf.Small.Strs
import Derived.Test.YtfddkbckoapmfaaGreatDoorProg
set_option linter.unusedVariables false
set_option linter.unusedSimpArgs false
set_option linter.unusedSectionVars false
set_option maxRecDepth 8000
namespace Go.Proofs.YtfddkbckoapmfaaGreatDoor
open Go Go.Dv
open Go.Vc (D shrI xorI andI and255)
theorem cut_eq {s : ByteArray} {l : List UInt8} (hl : l = s.data.toList) (i j : Nat) : s.extract i j = lxCut l i j := by
 subst hl
 apply ByteArray.ext
 rw [ByteArray.data_extract]
 unfold lxCut
 apply Array.ext'
 simp [List.extract_eq_take_drop]
theorem lxRun_yes {l : List UInt8} {i : Nat} (hi : i < l.length) (h : (lxLet l[i] || lxFig l[i]) = true) : lxRun l (i + 1) = lxRun l i := by
 rw [lxRun_step i, List.getElem?_eq_getElem hi]
 simp only [h, if_true]
theorem lxRun_no {l : List UInt8} {i : Nat} (hi : i < l.length) (h : (lxLet l[i] || lxFig l[i]) = false) : lxRun l i = i := by
 rw [lxRun_step i, List.getElem?_eq_getElem hi]
 simp [h]
theorem lxRun_end {l : List UInt8} {i : Nat} (hi : l.length ≤ i) : lxRun l i = i := by
 rw [lxRun_step i, List.getElem?_eq_none_iff.2 hi]
theorem cut_size (l : List UInt8) (i j : Nat) : (lxCut l i j).size = min (j - i) (l.length - i) := by
 unfold lxCut
 show ((l.drop i).take (j - i)).toArray.size = _
 simp
theorem one_yes {l : List UInt8} {a : Nat} {b : UInt8} {t : Tok} {e : Nat} (hr : lxRaw l a b = some (t, e)) (ho : okTok t = true) : lxOne l a b = some (t, e) := by
 unfold lxOne
 rw [hr]
 simp only [ho, if_true]
theorem one_no {l : List UInt8} {a : Nat} {b : UInt8} {t : Tok} {e : Nat} (hr : lxRaw l a b = some (t, e)) (ho : okTok t = false) : lxOne l a b = none := by
 unfold lxOne
 rw [hr]
 simp only [ho, Bool.false_eq_true, if_false]
theorem raw_34 (l : List UInt8) (a : Nat) : lxRaw l a 34 = (lxQuot l 34 (l.length + 1) (a + 1) []).map fun x => (⟨2, ⟨x.1.toArray⟩, a⟩, x.2) := by
 unfold lxRaw
 simp only
 rw [if_neg (by decide), if_neg (by decide), if_pos trivial]
theorem raw_39 (l : List UInt8) (a : Nat) : lxRaw l a 39 = (lxQuot l 39 (l.length + 1) (a + 1) []).map fun x => (⟨4, ⟨x.1.toArray⟩, a⟩, x.2) := by
 unfold lxRaw
 simp only
 rw [if_neg (by decide), if_neg (by decide), if_neg (by decide), if_pos trivial]
def lexV : List Tok ⊕ Nat → List Tok × Int
 | .inl m => (m, -1)
 | .inr p => ([], p)
theorem lexR_small {s : ByteArray} {L : List Tok} (h : lexR s = .inl L) : s.size ≤ 1048576 := by
 unfold lexR at h
 split at h
 ·cases h
 ·omega
def iqRes : Option (List UInt8 × Nat) → S
 | some (x, e) => .tu [([.v (.string ⟨x.toArray⟩)], true), ([.v (.int .i64 (e : Nat))], true), ([.v (.bool true)], true)]
 | none => .tu [([.v (.string ⟨#[]⟩)], true), ([.v (.int .i64 0)], true), ([.v (.bool false)], true)]
theorem readQuoted_d (s : ByteArray) (a : Nat) (q : UInt8) (hs : s.size ≤ 1048576) (hq : s.data.toList[a]? = some q) : Cl Tryz.prog 90 [vs s, vi a] [] fun r _ => r = iqRes (lxQuot s.data.toList q (s.data.toList.length + 1) (a + 1) []) := by
 obtain ⟨l, hl⟩ : ∃ l, l = s.data.toList := ⟨_, rfl⟩
 have hll : l.length = s.size := by rw [hl]; exact size_toList s
 rw [← hl] at hq ⊢
 obtain ⟨ha, hqa⟩ := List.getElem?_eq_some_iff.1 hq
 refine cl_of_d follows_mixed false Tryz.func90 rfl (by kernel_rfl) ?_
 simp only [Tryz.f90, tt, seval]
 rw [pu_at hl ha, hqa]
 simp only [tt, seval]
 rw [wrap_id (n := (a : Int) + 1) (by omega) (by omega)]
 refine dLoop.gh [.ren 13 51] ⟨by decide, by decide, ?_⟩
 refine dLoop0.intro (fun f' L p => ∃ (i n : Nat) (bs : List UInt8), f' 9 = vi i ∧ f' 8 = .c (.s 51 bs.length) ∧ i ≤ s.size ∧ bs.length ≤ i ∧ lxQuot l q n i bs = lxQuot l q (l.length + 1) (a + 1) [] ∧ l.length + 1 ≤ n + i ∧ L = [(51, .arr 5 bs.length (bytesD bs) none)] ∧ p = none) (fun f' _ _ => (s.size - ixS (f' 9)).toNat) [(51, .arr 5 0 (bytesD []) none)] none ⟨SubO.cons rfl (SubO.nil _), PoSub.none _, ?_⟩ ?_
 ·simp only [tt, seval]
  exact ⟨a + 1, l.length + 1, [], rfl, rfl, by omega, by simp, rfl, by omega, rfl⟩
 ·rintro g L p ⟨i, n, bs, h9, h8, hi, hbl, he, hn, rfl, rfl⟩
  simp only [tt, seval] at h9 h8
  simp only [tt, seval, h9, h8, Int.ofNat_lt]
  cases n with
  | zero => exact absurd hn (by omega)
  | succ n =>
  rw [lxQuot] at he
  refine fun _ => And.intro (fun hlt => ?_) (fun hge => ?_)
  ·have hil : i < l.length := by omega
   have hx : l[i]? = some l[i] := List.getElem?_eq_getElem hil
   have ex : bs.length ≤ 9223372036854775807 := by omega
   have ew : IntKind.i64.wrap ((i : Int) + 1) = ((i + 1 : Nat) : Int) := by rw [wrap_id (by omega) (by omega)]; omega
   rw [hx] at he
   simp only at he
   rw [pu_at hl hil]
   simp only [tt, seval, h9, h8]
   by_cases hc : l[i] = q
   ·have eq1 : ((l[i].toNat : Int) = (q.toNat : Int)) = True := eq_true (by rw [hc])
    rw [if_pos hc] at he
    simp only [tt, seval, eq1, true_implies, not_true_eq_false, false_implies, and_true]
    refine fun _ => ?_
    rw [ew]
    by_cases hi1 : i + 1 < l.length
    ·have g1 : decide (((i + 1 : Nat) : Int) = (s.size : Int)) = false := decide_eq_false (by omega)
     rw [List.getElem?_eq_getElem hi1] at he
     simp only [tt, seval, h9, h8, g1, ew]
     rw [pu_at hl hi1]
     simp only [tt, seval, h9, h8]
     refine And.intro (fun hne => ?_) (fun heq => ?_)
     ·have hd : ¬ l[i + 1] = q := fun e => by rw [e] at hne; simp at hne
      rw [if_neg (by simpa using hd)] at he
      refine ⟨by kernel_rfl, by simp only [maxLen]; omega, bs, rfl, rfl, ?_⟩
      simp only [tt, seval, h9, h8, ew]
      rw [← he]
      exact ⟨_, _, rfl, end0 rfl⟩
     ·have hd : l[i + 1] = q := UInt8.toNat_inj.1 (by simp at heq; omega)
      rw [if_pos (by rw [hd])] at he
      rw [ew, pu_at hl hi1]
      simp only [tt, seval, h9, h8]
      refine ⟨by kernel_rfl, ⟨by simp only [maxLen]; omega, by omega⟩, ?_⟩
      rw [bytesD_snoc, hd, wrap_id (n := ((i + 1 : Nat) : Int) + 1) (by omega) (by omega)]
      refine ⟨[(51, .arr 5 (bs ++ [q]).length (bytesD (bs ++ [q])) none)], none, SubO.cons (by simp [Go.Dv.look]) (SubO.nil _), PoSub.none _, ⟨i + 2, n, bs ++ [q], viE (by omega), by simp, by omega, by simp; omega, he, by omega, rfl, rfl⟩, by simp only [ixS]; omega⟩
    ·have g1 : decide (((i + 1 : Nat) : Int) = (s.size : Int)) = true := decide_eq_true (by omega)
     rw [List.getElem?_eq_none_iff.2 (by omega), if_neg (by simp)] at he
     simp only [tt, seval, h9, h8, g1, ew]
     refine ⟨by kernel_rfl, by simp only [maxLen]; omega, bs, rfl, rfl, ?_⟩
     simp only [tt, seval, h9, h8, ew]
     rw [← he]
     exact ⟨_, _, rfl, end0 rfl⟩
   ·have eq1 : ((l[i].toNat : Int) = (q.toNat : Int)) = False := eq_false fun h => hc (UInt8.toNat_inj.1 (by omega))
    rw [if_neg hc] at he
    simp only [tt, seval, eq1, false_implies, not_false_eq_true, true_implies, true_and]
    rw [pu_at hl hil]
    simp only [tt, seval, h9, h8]
    refine ⟨by kernel_rfl, ⟨by simp only [maxLen]; omega, by omega⟩, ?_⟩
    rw [bytesD_snoc, ew]
    refine ⟨[(51, .arr 5 (bs ++ [l[i]]).length (bytesD (bs ++ [l[i]])) none)], none, SubO.cons (by simp [Go.Dv.look]) (SubO.nil _), PoSub.none _, ⟨i + 1, n, bs ++ [l[i]], rfl, by simp, by omega, by simp; omega, he, by omega, rfl, rfl⟩, by simp only [ixS]; omega⟩
  ·have : i = s.size := by omega
   subst this
   rw [List.getElem?_eq_none_iff.2 (by omega)] at he
   simp only at he
   rw [← he]
   exact ⟨_, _, rfl, end0 rfl⟩
end Go.Proofs.YtfddkbckoapmfaaGreatDoor
namespace Go.Proofs.YtfddkbckoapmfaaGreatDoor
open Go Go.Shelf Go.Proofs
def Tryz.lays143_ren : Go.Shelf.Ren := ⟨fun | 143 => 85 | 219 => 130 | 217 => 128 | 225 => 160 | 224 => 161 | 267 => 162 | 266 => 159 | 314 => 181 | n => n, fun | 9 => 9 | 3 => 3 | 4 => 4 | 5 => 5 | 46 => 147 | 146 => 235 | 51 => 213 | n => n, fun | 1 => 1 | n => n⟩
theorem Tryz.lays143 : Go.Proofs.Lays.n143 Tryz.prog Tryz.lays143_ren := {
 mixed := by kernel_rfl
 f143 := Tryz.func85.trans (congrArg some (by kernel_rfl))
 f217 := Tryz.func128.trans (congrArg some (by kernel_rfl))
 f219 := Tryz.func130.trans (congrArg some (by kernel_rfl))
 f224 := Tryz.func161.trans (congrArg some (by kernel_rfl))
 f225 := Tryz.func160.trans (congrArg some (by kernel_rfl))
 f266 := Tryz.func159.trans (congrArg some (by kernel_rfl))
 f267 := Tryz.func162.trans (congrArg some (by kernel_rfl))
 f314 := Tryz.func181.trans (congrArg some (by kernel_rfl))
 t3 := Tryz.underlying3
 a3 := Tryz.isAgg3
 z3 := Tryz.sizeOf3
 v3 := Tryz.zeroValue3
 t4 := Tryz.underlying4
 a4 := Tryz.isAgg4
 z4 := Tryz.sizeOf4
 v4 := Tryz.zeroValue4
 t5 := Tryz.underlying5
 a5 := Tryz.isAgg5
 z5 := Tryz.sizeOf5
 v5 := Tryz.zeroValue5
 t9 := Tryz.underlying9
 a9 := Tryz.isAgg9
 z9 := Tryz.sizeOf9
 v9 := Tryz.zeroValue9
 t46 := Tryz.underlying147
 a46 := Tryz.isAgg147
 z46 := Tryz.sizeOf147
 v46 := Tryz.zeroValue147
 t51 := Tryz.underlying213
 a51 := Tryz.isAgg213
 z51 := Tryz.sizeOf213
 v51 := Tryz.zeroValue213
 t146 := Tryz.underlying235
 a146 := Tryz.isAgg235
 z146 := Tryz.sizeOf235
 v146 := Tryz.zeroValue235
 g1 := by kernel_rfl }
def Tryz.lays137_ren : Go.Shelf.Ren := ⟨fun | 137 => 83 | 217 => 128 | 266 => 159 | n => n, fun | 9 => 9 | 5 => 5 | 3 => 3 | n => n, fun | n => n⟩
theorem Tryz.lays137 : Go.Proofs.Lays.n137 Tryz.prog Tryz.lays137_ren := {
 mixed := by kernel_rfl
 f137 := Tryz.func83.trans (congrArg some (by kernel_rfl))
 f217 := Tryz.func128.trans (congrArg some (by kernel_rfl))
 f266 := Tryz.func159.trans (congrArg some (by kernel_rfl))
 t3 := Tryz.underlying3
 a3 := Tryz.isAgg3
 z3 := Tryz.sizeOf3
 v3 := Tryz.zeroValue3
 t5 := Tryz.underlying5
 a5 := Tryz.isAgg5
 z5 := Tryz.sizeOf5
 v5 := Tryz.zeroValue5
 t9 := Tryz.underlying9
 a9 := Tryz.isAgg9
 z9 := Tryz.sizeOf9
 v9 := Tryz.zeroValue9 }
def Tryz.lays99_ren : Go.Shelf.Ren := ⟨fun | 99 => 84 | 206 => 129 | n => n, fun | 9 => 9 | 4 => 4 | 3 => 3 | n => n, fun | n => n⟩
theorem Tryz.lays99 : Go.Proofs.Lays.n99 Tryz.prog Tryz.lays99_ren := {
 mixed := by kernel_rfl
 f99 := Tryz.func84.trans (congrArg some (by kernel_rfl))
 f206 := Tryz.func129.trans (congrArg some (by kernel_rfl))
 t3 := Tryz.underlying3
 a3 := Tryz.isAgg3
 z3 := Tryz.sizeOf3
 v3 := Tryz.zeroValue3
 t4 := Tryz.underlying4
 a4 := Tryz.isAgg4
 z4 := Tryz.sizeOf4
 v4 := Tryz.zeroValue4
 t9 := Tryz.underlying9
 a9 := Tryz.isAgg9
 z9 := Tryz.sizeOf9
 v9 := Tryz.zeroValue9 }
end Go.Proofs.YtfddkbckoapmfaaGreatDoor
set_option maxRecDepth 8000
namespace Go.Proofs.YtfddkbckoapmfaaGreatDoor
open Go Go.Dv
open Go.Vc (D shrI xorI andI and255)
open Go.RowKit (Below)
theorem below_self (w : World) : Below w.heap.size w w := ⟨rfl, rfl, rfl, Nat.le_refl _, fun _ _ => rfl⟩
theorem HasPrefix_d (s p : ByteArray) : Cl Tryz.prog 84 [vs s, vs p] [] fun r _ => r = vb (Lib.hasPrefix s.data.toList p.data.toList) :=
 Cl.ofVals (by kernel_rfl) [.string s, .string p] fun w hg => by
  refine (Any.strings_HasPrefix Tryz.lays99 s p w).mono ?_
  rintro e w' ⟨rfl, rfl⟩
  exact ⟨_, rfl, trivial, rfl, below_self _⟩
theorem IndexByte_d (s : ByteArray) (c : UInt8) : Cl Tryz.prog 83 [vs s, vu (c.toNat : Int)] [] fun r _ => r = vi (Lib.indexByte s.data.toList c) :=
 Cl.ofVals (by kernel_rfl) [.string s, .int .u8 (c.toNat : Int)] fun w hg => by
  refine (Any.strings_IndexByte Tryz.lays137 s (c.toNat : Int) w).mono ?_
  rintro e w' ⟨rfl, rfl⟩
  exact ⟨_, rfl, trivial, by simp, below_self _⟩
theorem IndexS_d (s p : ByteArray) (hs : s.size ≤ 1048576) : Cl Tryz.prog 85 [vs s, vs p] [] fun r _ => r = vi (Lib.index s.data.toList p.data.toList) :=
 Cl.ofVals (by kernel_rfl) [.string s, .string p] fun w hg => by
  obtain ⟨m, hm⟩ := gl_max hg
  refine (Any.strings_Index Tryz.lays143 s p m w (by omega) hm).mono ?_
  rintro e w' ⟨rfl, rfl⟩
  exact ⟨_, rfl, trivial, rfl, below_self _⟩
theorem from_eq {s : ByteArray} {l : List UInt8} (hl : l = s.data.toList) (i : Nat) : s.extract i s.size = ⟨(l.drop i).toArray⟩ := by
 rw [cut_eq hl]
 unfold lxCut
 rw [List.take_of_length_le]
 rw [List.length_drop, hl, size_toList]
 exact Nat.le_refl _
theorem pre2 (l : List UInt8) (i : Nat) (a b : UInt8) : Lib.hasPrefix (l.drop i) [a, b] = decide (l[i]? = some a ∧ l[i + 1]? = some b) := by
 have h0 : l[i]? = (l.drop i)[0]? := by simp [List.getElem?_drop]
 have h1 : l[i + 1]? = (l.drop i)[1]? := by simp [List.getElem?_drop]
 rw [h0, h1]
 unfold Lib.hasPrefix
 generalize l.drop i = m
 match m with
 | [] => simp
 | [x] =>
  show (a == x && false) = _
  simp
 | x :: y :: r =>
  show (a == x && (b == y && true)) = _
  by_cases h1 : x = a
  ·by_cases h2 : y = b
   ·simp [h1, h2]
   ·have h2' : ¬ b = y := fun e => h2 e.symm
    simp [h1, h2, h2']
  ·have h1' : ¬ a = x := fun e => h1 e.symm
   simp [h1, h1']
theorem eol_fix (l : List UInt8) : ∀ n j, l.length - j ≤ n → lxEol l (lxEol l j) = lxEol l j
 | 0, j, h => by
  have := lxEol_step (B := l) j
  rw [List.getElem?_eq_none_iff.2 (by omega)] at this
  simp only at this
  rw [this, this]
 | n + 1, j, h => by
  have := lxEol_step (B := l) j
  cases hx : l[j]? with
  | none =>
   rw [hx] at this
   simp only at this
   rw [this, this]
  | some b =>
   rw [hx] at this
   simp only at this
   split at this
   ·rw [this, this]
   ·rw [this]; exact eol_fix l n (j + 1) (by omega)
theorem idxB_tw (l : List UInt8) (c : UInt8) : Lib.indexByte l c = if (l.takeWhile fun b => !(b == c)).length < l.length then ((l.takeWhile fun b => !(b == c)).length : Int) else -1 := by
 induction l with
 | nil => rfl
 | cons b r ih =>
  unfold Lib.indexByte
  rw [List.takeWhile_cons]
  by_cases h : (b == c) = true
  ·simp [h]
  ·rw [if_neg h, ih]
   have hb : (!(b == c)) = true := by simp [h]
   simp only [hb, if_true, List.length_cons, Nat.add_lt_add_iff_right]
   split
   ·rw [if_neg (by simp only [beq_iff_eq]; omega)]; omega
   ·rw [if_pos (by rfl)]
theorem ws_idx (b : UInt8) : 0 ≤ Lib.indexByte [32, 9, 10, 13] b ↔ lxWs b = true := by
 unfold lxWs
 simp only [Lib.indexByte, Bool.or_eq_true, beq_iff_eq]
 by_cases h1 : b = 32
 ·subst h1; decide
 by_cases h2 : b = 9
 ·subst h2; decide
 by_cases h3 : b = 10
 ·subst h3; decide
 by_cases h4 : b = 13
 ·subst h4; decide
 simp only [h1, h2, h3, h4, eq_comm, or_self, iff_false, if_false]
 simp [h1, h2, h3, h4, eq_comm]
theorem end_idx (l : List UInt8) : ∀ n i, i ≤ l.length → l.length + 1 ≤ n + i → lxEnd l n i = (if Lib.index (l.drop i) [42, 47] = -1 then none else some (i + (Lib.index (l.drop i) [42, 47]).toNat))
 | 0, i, hi, hn => absurd hn (by omega)
 | n + 1, i, hi, hn => by
  rw [lxEnd]
  have hp := pre2 l i 42 47
  unfold Lib.hasPrefix at hp
  by_cases hlt : i < l.length
  ·rw [List.drop_eq_getElem_cons hlt] at hp ⊢
   unfold Lib.index
   rw [hp]
   by_cases hq : l[i]? = some 42 ∧ l[i + 1]? = some 47
   ·rw [if_pos hq, decide_eq_true hq]; simp
   ·rw [if_neg hq, if_pos hlt, decide_eq_false hq, end_idx l n (i + 1) (by omega) (by omega)]
    have hg := Lib.index_ge (l.drop (i + 1)) [42, 47]
    by_cases hm : Lib.index (l.drop (i + 1)) [42, 47] = -1
    ·simp [hm]
    ·simp only [hm, Bool.false_eq_true, if_false, beq_iff_eq]
     rw [if_neg (by omega)]
     congr 1
     omega
  ·have hq : ¬ (l[i]? = some 42 ∧ l[i + 1]? = some 47) := fun h => hlt (List.getElem?_eq_some_iff.1 h.1).1
   rw [if_neg hq, if_neg hlt, List.drop_eq_nil_of_le (by omega)]
   rfl
def sRes : Option (Nat × Bool) → S
 | some (p, b) => .tu [([.v (.int .i64 (p : Nat))], true), ([.v (.bool b)], true)]
 | none => .tu []
set_option maxHeartbeats 4000000 in
theorem skip_d (s : ByteArray) (a : Nat) (hs : s.size ≤ 1048576) (ha : a ≤ s.size) : Cl Tryz.prog 59 [vs s, vi a] [] fun r _ => r = sRes (lxPass s.data.toList (s.data.toList.length + 1) a) := by
 obtain ⟨l, hl⟩ : ∃ l, l = s.data.toList := ⟨_, rfl⟩
 have hll : l.length = s.size := by rw [hl]; exact size_toList s
 rw [← hl]
 obtain ⟨rr, ok, hrr, hr1, hr2⟩ := lxPass_df (B := l) (l.length + 1) a (by omega) (by omega)
 rw [hrr]
 refine cl_of_d follows_mixed false Tryz.func59 rfl (by kernel_rfl) ?_
 simp only [Tryz.f59, tt, seval]
 refine dLoop.intro (fun f' L p => ∃ (j n : Nat), f' 1 = vi j ∧ j ≤ s.size ∧ lxPass l n j = some (rr, ok) ∧ l.length + 1 ≤ n + j ∧ L = [] ∧ p = none) (fun f' _ _ => (s.size - ixS (f' 1)).toNat) [] none ⟨SubO.nil _, PoSub.none _, ?_⟩ ?_
 ·simp only [tt, seval]
  exact ⟨a, l.length + 1, rfl, ha, hrr, by omega⟩
 ·rintro g L p ⟨j, n, h1, hj, he, hn, rfl, rfl⟩
  simp only [tt, seval] at h1
  cases n with
  | zero => exact absurd hn (by omega)
  | succ n =>
  rw [lxPass] at he
  simp only [tt, seval, h1, Int.ofNat_lt]
  refine fun _ => And.intro (fun hlt => ?_) (fun hge => ?_)
  ·have hil : j < l.length := by omega
   have hrs : (⟨(l.drop j).toArray⟩ : ByteArray).size ≤ 1048576 := by show (l.drop j).toArray.size ≤ _; simp; omega
   rw [List.getElem?_eq_getElem hil] at he
   simp only at he
   rw [pu_from (by kernel_rfl) (show s.size ≤ 9223372036854775807 by omega) (by omega) (by omega), Int.toNat_natCast, from_eq hl]
   simp only [tt, seval, h1]
   rw [pu_at hl hil]
   simp only [tt, seval, h1]
   have cw := IndexByte_d ⟨#[32, 9, 10, 13]⟩ l[j]
   have hwi := ws_idx l[j]
   refine cZ (cw) (by decide) ?_ ?_ <;> simp only [tt, seval, h1]
   by_cases hw : lxWs l[j] = true
   ·rw [if_pos hw] at he
    have e1 : (0 ≤ Lib.indexByte [32, 9, 10, 13] l[j]) = True := eq_true (hwi.2 hw)
    simp only [tt, seval, e1, h1, true_implies, not_true_eq_false, false_implies, and_true]
    rw [wrap_id (n := (j : Int) + 1) (by omega) (by omega)]
    exact ⟨[], none, SubO.nil _, PoSub.none _, ⟨j + 1, n, rfl, by omega, he, by omega, rfl, rfl⟩, by simp only [ixS]; omega⟩
   ·rw [if_neg hw] at he
    have e1 : (0 ≤ Lib.indexByte [32, 9, 10, 13] l[j]) = False := eq_false fun h => hw (hwi.1 h)
    simp only [tt, seval, e1, h1, false_implies, not_false_eq_true, true_implies, true_and]
    have c1 := HasPrefix_d ⟨(l.drop j).toArray⟩ ⟨#[45, 45]⟩
    have e2 : Lib.hasPrefix (⟨(l.drop j).toArray⟩ : ByteArray).data.toList (⟨#[45, 45]⟩ : ByteArray).data.toList = decide (l[j] = 45 ∧ l[j + 1]? = some 45) := by
     show Lib.hasPrefix (l.drop j) [45, 45] = _
     rw [pre2, List.getElem?_eq_getElem hil]; simp
    rw [e2] at c1
    refine cZ (c1) (by decide) ?_ ?_ <;> simp only [tt, seval, h1]
    by_cases hd : l[j] = 45 ∧ l[j + 1]? = some 45
    ·have d1 : decide (l[j] = 45 ∧ l[j + 1]? = some 45) = true := decide_eq_true hd
     have d1' : (l[j] = 45 ∧ l[j + 1]? = some 45) = True := eq_true hd
     rw [if_pos hd] at he
     have hne : ¬ l[j] = 10 := by rw [hd.1]; decide
     have eol := lxEol_step (B := l) j
     rw [List.getElem?_eq_getElem hil] at eol
     simp only [hne, if_false] at eol
     have gol := lxEol_ge (B := l) (j + 1)
     have gl2 := lxEol_le (B := l) (i := j) (by omega)
     try simp only [tt, seval, h1, d1, d1', true_implies, not_true_eq_false, false_implies, and_true]
     have c2 := IndexByte_d ⟨(l.drop j).toArray⟩ 10
     have e3 : Lib.indexByte (⟨(l.drop j).toArray⟩ : ByteArray).data.toList 10 = if lxEol l j < l.length then ((lxEol l j : Nat) : Int) - j else -1 := by
      show Lib.indexByte (l.drop j) 10 = _
      rw [idxB_tw, List.length_drop]
      have : lxEol l j = j + ((l.drop j).takeWhile fun b => !(b == 10)).length := rfl
      split <;> split <;> omega
     rw [e3] at c2
     refine cZ (c2) (by decide) ?_ ?_ <;> simp only [tt, seval, h1]
     cases n with
     | zero => exact absurd hn (by omega)
     | succ n =>
     rw [lxPass] at he
     by_cases hE : lxEol l j < l.length
     ·have hv : l[lxEol l j]? = some 10 := by
       have := lxEol_step (B := l) (lxEol l j)
       have h2 := eol_fix l _ j (Nat.le_refl _)
       rw [List.getElem?_eq_getElem hE] at this ⊢
       simp only at this
       split at this
       ·rename_i h; rw [h]
       ·have := lxEol_ge (B := l) (lxEol l j + 1); omega
      rw [hv] at he
      simp only [show lxWs 10 = true from rfl, if_true] at he
      have f1 : ((if lxEol l j < l.length then ((lxEol l j : Nat) : Int) - j else -1) < 0) = False := eq_false (by rw [if_pos hE]; omega)
      have f1' : (((lxEol l j : Nat) : Int) - j < 0) = False := eq_false (by omega)
      simp only [tt, seval, h1, f1', hE, false_implies, not_false_eq_true, true_implies, true_and, if_true]
      rw [wrap_id (n := ((lxEol l j : Nat) : Int) - j + 1) (by omega) (by omega), wrap_id (n := (j : Int) + (((lxEol l j : Nat) : Int) - j + 1)) (by omega) (by omega)]
      exact ⟨[], none, SubO.nil _, PoSub.none _, ⟨lxEol l j + 1, n, viE (by omega), by omega, he, by omega, rfl, rfl⟩, by simp only [ixS]; omega⟩
     ·rw [List.getElem?_eq_none_iff.2 (by omega)] at he
      simp only at he
      injection he with he; injection he with he1 he2; subst he1 he2
      have f1 : ((if lxEol l j < l.length then ((lxEol l j : Nat) : Int) - j else -1) < 0) = True := eq_true (by rw [if_neg hE]; omega)
      simp only [tt, seval, h1, f1, true_implies, not_true_eq_false, false_implies, and_true]
      refine fun _ => ⟨.tu [([.v (.int .i64 (s.size : Nat))], true), ([.v (.bool true)], true)], [], ?_, end0 rfl⟩
      rw [show lxEol l j = s.size by omega]; rfl
    ·have d1 : decide (l[j] = 45 ∧ l[j + 1]? = some 45) = false := decide_eq_false hd
     have d1' : (l[j] = 45 ∧ l[j + 1]? = some 45) = False := eq_false hd
     rw [if_neg hd] at he
     try simp only [tt, seval, h1, d1, d1', false_implies, not_false_eq_true, true_implies, true_and, Bool.false_eq_true]
     have c2 := HasPrefix_d ⟨(l.drop j).toArray⟩ ⟨#[47, 42]⟩
     have e3 : Lib.hasPrefix (⟨(l.drop j).toArray⟩ : ByteArray).data.toList (⟨#[47, 42]⟩ : ByteArray).data.toList = decide (l[j] = 47 ∧ l[j + 1]? = some 42) := by
      show Lib.hasPrefix (l.drop j) [47, 42] = _
      rw [pre2, List.getElem?_eq_getElem hil]; simp
     rw [e3] at c2
     refine cZ (c2) (by decide) ?_ ?_ <;> simp only [tt, seval, h1]
     by_cases hc : l[j] = 47 ∧ l[j + 1]? = some 42
     ·have d2 : decide (l[j] = 47 ∧ l[j + 1]? = some 42) = true := decide_eq_true hc
      have d2' : (l[j] = 47 ∧ l[j + 1]? = some 42) = True := eq_true hc
      rw [if_pos hc] at he
      have hj2 : j + 1 < l.length := (List.getElem?_eq_some_iff.1 hc.2).1
      try simp only [tt, seval, h1, d2, d2', true_implies, not_true_eq_false, false_implies, and_true]
      have hrz : (⟨(l.drop j).toArray⟩ : ByteArray).size = l.length - j := by show (l.drop j).toArray.size = _; simp
      rw [pu_from (by kernel_rfl) (show ByteArray.size _ ≤ 9223372036854775807 by omega) (by omega) (by omega)]
      have e4 : (⟨(l.drop j).toArray⟩ : ByteArray).extract (2 : Int).toNat (⟨(l.drop j).toArray⟩ : ByteArray).size = ⟨(l.drop (j + 2)).toArray⟩ := by
       rw [from_eq (l := l.drop j) (by simp)]
       simp [List.drop_drop]
      rw [e4]
      simp only [tt, seval, h1]
      have c3 := IndexS_d ⟨(l.drop (j + 2)).toArray⟩ ⟨#[42, 47]⟩ (by show (l.drop (j + 2)).toArray.size ≤ _; simp; omega)
      have e5 : Lib.index (⟨(l.drop (j + 2)).toArray⟩ : ByteArray).data.toList (⟨#[42, 47]⟩ : ByteArray).data.toList = Lib.index (l.drop (j + 2)) [42, 47] := rfl
      rw [e5] at c3
      have hx := end_idx l (l.length + 1) (j + 2) (by omega) (by omega)
      have hg := Lib.index_ge (l.drop (j + 2)) [42, 47]
      generalize Lib.index (l.drop (j + 2)) [42, 47] = ix at *
      refine cZ (c3) (by decide) ?_ ?_ <;> simp only [tt, seval, h1]
      rw [hx] at he
      by_cases hm : ix = -1
      ·rw [if_pos hm] at he
       simp only at he
       injection he with he; injection he with he1 he2; subst he1 he2
       have f1 : (ix < 0) = True := eq_true (by omega)
       simp only [tt, seval, h1, f1, true_implies, not_true_eq_false, false_implies, and_true]
       exact ⟨_, _, rfl, end0 rfl⟩
      ·rw [if_neg hm] at he hx
       have hsp := lxEnd_spec hx
       simp only at he
       have f1 : (ix < 0) = False := eq_false (by omega)
       simp only [tt, seval, h1, f1, false_implies, not_false_eq_true, true_implies, true_and]
       rw [wrap_id (n := ix + 4) (by omega) (by omega), wrap_id (n := (j : Int) + (ix + 4)) (by omega) (by omega)]
       exact ⟨[], none, SubO.nil _, PoSub.none _, ⟨j + 2 + ix.toNat + 2, n, viE (by omega), by omega, he, by omega, rfl, rfl⟩, by simp only [ixS]; omega⟩
     ·have d2 : decide (l[j] = 47 ∧ l[j + 1]? = some 42) = false := decide_eq_false hc
      have d2' : (l[j] = 47 ∧ l[j + 1]? = some 42) = False := eq_false hc
      rw [if_neg hc] at he
      injection he with he; injection he with he1 he2; subst he1 he2
      try simp only [tt, seval, h1, d2, d2', false_implies, not_false_eq_true, true_implies, true_and, Bool.false_eq_true]
      exact ⟨_, _, rfl, end0 rfl⟩
  ·have : j = s.size := by omega
   subst this
   rw [List.getElem?_eq_none_iff.2 (by omega)] at he
   simp only at he
   injection he with he; injection he with he1 he2; subst he1 he2
   exact ⟨_, _, rfl, end0 rfl⟩
end Go.Proofs.YtfddkbckoapmfaaGreatDoor
set_option maxRecDepth 8000
namespace Go.Proofs.YtfddkbckoapmfaaGreatDoor
open Go Go.Dv
open Go.Vc (D shrI xorI andI and255)
theorem cut1 {l : List UInt8} {a : Nat} (k : Nat) (s : List UInt8) (h : s <+: l.drop a) (hs : s.length = k) : (⟨s.toArray⟩ : ByteArray) = lxCut l a (a + k) := by
 unfold lxCut
 rw [Nat.add_sub_cancel_left, ← hs, ← List.prefix_iff_eq_take.1 h]
structure BestI (S : List ByteArray) (m : List UInt8) (t : ByteArray) : Prop where
 got : t = ⟨#[]⟩ ∨ (t ∈ S ∧ t.data.toList <+: m)
 most : ∀ s ∈ S, s.data.toList <+: m → s.size ≤ t.size
theorem BestI.nil (m : List UInt8) : BestI [] m ⟨#[]⟩ := ⟨.inl rfl, fun _ h => by cases h⟩
theorem BestI.yes {S : List ByteArray} {m : List UInt8} {t s : ByteArray} (h : BestI S m t) (hp : s.data.toList <+: m) (hl : t.size < s.size) : BestI (S ++ [s]) m s :=
 ⟨.inr ⟨by simp, hp⟩, fun x hx hm => by
   rcases List.mem_append.1 hx with hx | hx
   ·have := h.most x hx hm; omega
   ·rw [List.mem_singleton.1 hx]; exact Nat.le_refl _⟩
theorem BestI.no {S : List ByteArray} {m : List UInt8} {t s : ByteArray} (h : BestI S m t) (hp : s.data.toList <+: m → s.size ≤ t.size) : BestI (S ++ [s]) m t :=
 ⟨h.got.imp id fun ⟨h1, h2⟩ => ⟨by simp [h1], h2⟩, fun x hx hm => by
   rcases List.mem_append.1 hx with hx | hx
   ·exact h.most x hx hm
   ·rw [List.mem_singleton.1 hx] at hm ⊢; exact hp hm⟩
theorem signs_size : ∀ s ∈ signs, 1 ≤ s.size ∧ s.size ≤ 2 := by decide
theorem signB_mem {s : ByteArray} : signB s = true ↔ s ∈ signs := by
 unfold signB
 simp [List.any_eq_true]
theorem cut_pre (l : List UInt8) (a k : Nat) : (lxCut l a (a + k)).data.toList <+: l.drop a := by
 unfold lxCut
 rw [Nat.add_sub_cancel_left]
 exact List.take_prefix _ _
theorem best_sign {l : List UInt8} {a : Nat} {t : ByteArray} (ha : a < l.length) (h : BestI signs (l.drop a) t) : (t = lxCut l a (lxSign l a) ∧ a + t.size = lxSign l a) ∨ (signB t = false ∧ signB (lxCut l a (lxSign l a)) = false) := by
 have hlen : ∀ k, a + k ≤ l.length → (lxCut l a (a + k)).size = k := fun k hk => by
  unfold lxCut
  show ((l.drop a).take (a + k - a)).toArray.size = _
  simp; omega
 have ht2 : t.size ≤ 2 := by
  rcases h.got with rfl | ⟨h1, _⟩
  ·exact Nat.zero_le _
  ·exact (signs_size _ h1).2
 have cutt : ∀ k, t.size = k → 1 ≤ k → t = lxCut l a (a + k) ∧ t ∈ signs := fun k hk h1 => by
  rcases h.got with rfl | ⟨h2, h3⟩
  ·exact absurd hk (by show ¬ (0 = k); omega)
  ·exact ⟨cut1 k t.data.toList h3 (by rw [← hk]; simp), h2⟩
 unfold lxSign
 by_cases c2 : a + 2 ≤ l.length ∧ signB (lxCut l a (a + 2)) = true
 ·rw [if_pos c2]
  have := h.most _ (signB_mem.1 c2.2) (cut_pre l a 2)
  rw [hlen 2 c2.1] at this
  have hz : t.size = 2 := by omega
  exact .inl ⟨(cutt 2 hz (by omega)).1, by omega⟩
 ·rw [if_neg c2]
  have h2 : t.size ≠ 2 := fun hz => by
   obtain ⟨e, hm⟩ := cutt 2 hz (by omega)
   refine c2 ⟨?_, by rw [← e]; exact signB_mem.2 hm⟩
   have : (lxCut l a (a + 2)).size ≤ l.length - a := by
    unfold lxCut
    show ((l.drop a).take (a + 2 - a)).toArray.size ≤ _
    simp; omega
   rw [← e] at this
   omega
  by_cases c1 : signB (lxCut l a (a + 1)) = true
  ·have := h.most _ (signB_mem.1 c1) (cut_pre l a 1)
   rw [hlen 1 (by omega)] at this
   have hz : t.size = 1 := by omega
   exact .inl ⟨(cutt 1 hz (by omega)).1, by omega⟩
  ·refine .inr ⟨?_, by simpa using c1⟩
   by_cases hz : t.size = 1
   ·obtain ⟨e, hm⟩ := cutt 1 hz (by omega)
    exact absurd (by rw [← e]; exact signB_mem.2 hm) c1
   ·rcases h.got with rfl | ⟨h3, _⟩
    ·rfl
    ·have := (signs_size _ h3).1; omega
set_option maxHeartbeats 8000000 in
theorem readToken_d (s : ByteArray) (a : Nat) (b : UInt8) (hs : s.size ≤ 1048576) (hb : s.data.toList[a]? = some b) : Cl Tryz.prog 60 [vs s, vi a] [] fun r _ => ∃ (t : Tok) (e : Int) (ok : Bool), r = .tu [(csOf t.row, false), ([.v (.int .i64 e)], true), ([.v (.bool ok)], true)] ∧ ok = (lxOne s.data.toList a b).isSome ∧ ∀ t' e', lxOne s.data.toList a b = some (t', e') → t = t' ∧ e = e' := by
 obtain ⟨l, hl⟩ : ∃ l, l = s.data.toList := ⟨_, rfl⟩
 have hll : l.length = s.size := by rw [hl]; exact size_toList s
 rw [← hl] at hb ⊢
 obtain ⟨ha, hba⟩ := List.getElem?_eq_some_iff.1 hb
 refine cl_of_d follows_mixed false Tryz.func60 rfl (by kernel_rfl) ?_
 simp only [Tryz.f60, tt, seval]
 rw [pu_at hl ha, hba]
 simp only [tt, seval]
 refine cZ (isPart_d b.toNat) (by decide) ?_ ?_ <;> simp only [tt, seval]
 cases hP : letB b.toNat || decide ((48 : Int) ≤ (b.toNat : Int) ∧ (b.toNat : Int) ≤ 57) with
 | true =>
  try simp only [tt, seval, hP]
  have hrl := lxRun_ge (B := l) a
  have hrh := lxRun_le (B := l) (i := a) (by omega)
  refine dLoop.intro (fun f' L p => ∃ j : Nat, f' 8 = vi j ∧ j ≤ s.size ∧ lxRun l j = lxRun l a ∧ L = [(7, .str [.v (.int .i64 0), .v (.string ByteArray.empty), .v (.int .i64 a)]), (4, .str [.v (.int .i64 0), .v (.string ByteArray.empty), .v (.int .i64 0)])] ∧ p = none) (fun f' _ _ => (s.size - ixS (f' 8)).toNat) [(7, .str [.v (.int .i64 0), .v (.string ByteArray.empty), .v (.int .i64 a)]), (4, .str [.v (.int .i64 0), .v (.string ByteArray.empty), .v (.int .i64 0)])] none ⟨SubO.cons rfl (SubO.cons rfl (SubO.nil _)), PoSub.none _, ?_⟩ ?_
  ·simp only [tt, seval]
   exact ⟨a, rfl, by omega, rfl⟩
  ·rintro g L p ⟨j, h8, hj, he, rfl, rfl⟩
   simp only [tt, seval] at h8
   simp only [tt, seval, h8, Int.ofNat_lt]
   refine fun _ => ?_
   by_cases hlt : j < s.size
   ·have hil : j < l.length := by omega
    simp only [tt, seval, h8, hlt, decide_true]
    rw [pu_at hl hil]
    simp only [tt, seval, h8]
    refine cZ (isPart_d l[j].toNat) (by decide) ?_ ?_ <;> simp only [tt, seval, h8]
    cases hL : letB l[j].toNat || decide ((48 : Int) ≤ (l[j].toNat : Int) ∧ (l[j].toNat : Int) ≤ 57) with
    | true =>
     simp only [tt, seval, h8, hL]
     rw [wrap_id (n := (j : Int) + 1) (by omega) (by omega)]
     exact ⟨[(7, .str [.v (.int .i64 0), .v (.string ByteArray.empty), .v (.int .i64 a)]), (4, .str [.v (.int .i64 0), .v (.string ByteArray.empty), .v (.int .i64 0)])], none, SubO.cons rfl (SubO.cons rfl (SubO.nil _)), PoSub.none _, ⟨j + 1, rfl, by omega, by rw [lxRun_yes hil hL, he], rfl, rfl⟩, by simp only [ixS]; omega⟩
    | false =>
     have ej : j = lxRun l a := by rw [← he, lxRun_no hil hL]
     subst ej
     simp only [tt, seval, h8, hL]
     have hsz : (lxCut l a (lxRun l a)).size ≤ 1048576 := by rw [cut_size]; omega
     refine dDrawn.intro [] (pln [0, 2, 4, 6, 8, 11, 12, 15]) (by kernel_rfl) ?_
     simp only [tt, seval]
     all_goals try simp only [tt, seval, h8]
     all_goals rw [pu_cut (by kernel_rfl) (show s.size ≤ 9223372036854775807 by omega) (by omega) (by omega) (by omega), Int.toNat_natCast, Int.toNat_natCast, cut_eq hl]
     generalize hx : lxCut l a (lxRun l a) = x at *
     simp only [tt, seval, h8]
     refine cZ (isDigit_d b.toNat) (by decide) ?_ ?_ <;> simp only [tt, seval, h8]
     cases hF : decide ((48 : Int) ≤ (b.toNat : Int) ∧ (b.toNat : Int) ≤ 57) with
     | true =>
      have hF' := of_decide_eq_true hF
      have hL : letB b.toNat = false := by unfold letB; simp only [Bool.or_eq_false_iff, decide_eq_false_iff_not]; omega
      have eF : ((48 : Int) ≤ (b.toNat : Int) ∧ (b.toNat : Int) ≤ 57) = True := eq_true hF'
      have hraw : lxRaw l a b = some (⟨3, x, a⟩, lxRun l a) := by
       unfold lxRaw
       simp only [lxLet, lxFig, hL, hF, if_true, Bool.false_eq_true, if_false, hx]
      simp only [tt, seval, eF, h8, true_implies, not_true_eq_false, false_implies, and_true]
      refine dDrawn.intro [] (pln [0, 2, 4, 7, 9, 10, 12]) (by kernel_rfl) ?_
      simp only [tt, seval]
      all_goals try simp only [tt, seval, h8]
      all_goals repeat' first | refine brC ?_ ?_ | refine brC2 ?_ ?_
      all_goals
       refine cZ (iTokenOk_d (Tok.mk 3 x a) hsz) (by decide) ?_ ?_ <;> simp only [tt, seval, Tok.row, h8]
      all_goals
       cases ho : okTok (Tok.mk 3 x a) with
       | true =>
        have e1 : lxOne l a b = some ((Tok.mk 3 x a), lxRun l a) := one_yes hraw ho
        rw [e1]
        refine ⟨.tu [(csOf (Tok.mk 3 x a).row, false), ([.v (.int .i64 ((lxRun l a : Nat) : Int))], true), ([.v (.bool true)], true)], [], ⟨(Tok.mk 3 x a), _, _, rfl, by rfl, fun t' e' h => by cases h; exact ⟨rfl, rfl⟩⟩, endOk ?_⟩
        simp only [tt, seval, Tok.row, ho]
       | false =>
        have e1 : lxOne l a b = none := one_no hraw ho
        rw [e1]
        refine ⟨.tu [(csOf (Tok.mk 3 x a).row, false), ([.v (.int .i64 ((lxRun l a : Nat) : Int))], true), ([.v (.bool false)], true)], [], ⟨(Tok.mk 3 x a), _, _, rfl, by rfl, by first | exact fun t' e' h => by cases h | exact fun _ _ h => (by cases h)⟩, endOk ?_⟩
        simp only [tt, seval, Tok.row, ho]
     | false =>
      have hF' := of_decide_eq_false hF
      have hL : letB b.toNat = true := by rw [hF, Bool.or_false] at hP; exact hP
      have eF : ((48 : Int) ≤ (b.toNat : Int) ∧ (b.toNat : Int) ≤ 57) = False := eq_false hF'
      have hraw : lxRaw l a b = some (if key x = 0 then ⟨2, x, a⟩ else ⟨1, foldB x, a⟩, lxRun l a) := by
       unfold lxRaw
       simp only [lxLet, hL, if_true, hx]
      simp only [tt, seval, eF, h8, false_implies, not_false_eq_true, true_implies, true_and]
      refine cZ (iKeyOf_d x hsz) (by decide) ?_ ?_ <;> simp only [tt, seval, h8]
      by_cases hk : key x = 0
      ·rw [if_pos hk] at hraw
       have ek : (!decide (key x = 0)) = false := by rw [decide_eq_true hk]; rfl
       have ek' : (¬ key x = 0) = False := eq_false (not_not_intro hk)
       have ek2 : (key x = 0) = True := eq_true hk
       simp only [tt, seval, ek2, h8, not_true_eq_false, false_implies, not_false_eq_true, true_implies, true_and, and_true]
       refine dDrawn.intro [] (pln [0, 2, 4, 7, 9, 10, 12]) (by kernel_rfl) ?_
       simp only [tt, seval]
       all_goals try simp only [tt, seval, h8]
       all_goals repeat' first | refine brC ?_ ?_ | refine brC2 ?_ ?_
       all_goals
        refine cZ (iTokenOk_d (Tok.mk 2 x a) hsz) (by decide) ?_ ?_ <;> simp only [tt, seval, Tok.row, h8]
       all_goals
        cases ho : okTok (Tok.mk 2 x a) with
        | true =>
         have e1 : lxOne l a b = some ((Tok.mk 2 x a), lxRun l a) := one_yes hraw ho
         rw [e1]
         refine ⟨.tu [(csOf (Tok.mk 2 x a).row, false), ([.v (.int .i64 ((lxRun l a : Nat) : Int))], true), ([.v (.bool true)], true)], [], ⟨(Tok.mk 2 x a), _, _, rfl, by rfl, fun t' e' h => by cases h; exact ⟨rfl, rfl⟩⟩, endOk ?_⟩
         simp only [tt, seval, Tok.row, ho]
        | false =>
         have e1 : lxOne l a b = none := one_no hraw ho
         rw [e1]
         refine ⟨.tu [(csOf (Tok.mk 2 x a).row, false), ([.v (.int .i64 ((lxRun l a : Nat) : Int))], true), ([.v (.bool false)], true)], [], ⟨(Tok.mk 2 x a), _, _, rfl, by rfl, by first | exact fun t' e' h => by cases h | exact fun _ _ h => (by cases h)⟩, endOk ?_⟩
         simp only [tt, seval, Tok.row, ho]
      ·rw [if_neg hk] at hraw
       have ek2 : (key x = 0) = False := eq_false hk
       simp only [tt, seval, ek2, h8, not_true_eq_false, false_implies, not_false_eq_true, true_implies, true_and, and_true]
       refine cZ (iFold_d x hsz) (by decide) ?_ ?_ <;> simp only [tt, seval, h8]
       refine dDrawn.intro [] (pln [0, 2, 4, 7, 9, 10, 12]) (by kernel_rfl) ?_
       simp only [tt, seval]
       all_goals try simp only [tt, seval, h8]
       all_goals repeat' first | refine brC ?_ ?_ | refine brC2 ?_ ?_
       all_goals
        refine cZ (iTokenOk_d (Tok.mk 1 (foldB x) a) (by show (foldB x).size ≤ _; rw [foldB_size]; exact hsz)) (by decide) ?_ ?_ <;> simp only [tt, seval, Tok.row, h8]
       all_goals
        cases ho : okTok (Tok.mk 1 (foldB x) a) with
        | true =>
         have e1 : lxOne l a b = some ((Tok.mk 1 (foldB x) a), lxRun l a) := one_yes hraw ho
         rw [e1]
         refine ⟨.tu [(csOf (Tok.mk 1 (foldB x) a).row, false), ([.v (.int .i64 ((lxRun l a : Nat) : Int))], true), ([.v (.bool true)], true)], [], ⟨(Tok.mk 1 (foldB x) a), _, _, rfl, by rfl, fun t' e' h => by cases h; exact ⟨rfl, rfl⟩⟩, endOk ?_⟩
         simp only [tt, seval, Tok.row, ho]
        | false =>
         have e1 : lxOne l a b = none := one_no hraw ho
         rw [e1]
         refine ⟨.tu [(csOf (Tok.mk 1 (foldB x) a).row, false), ([.v (.int .i64 ((lxRun l a : Nat) : Int))], true), ([.v (.bool false)], true)], [], ⟨(Tok.mk 1 (foldB x) a), _, _, rfl, by rfl, by first | exact fun t' e' h => by cases h | exact fun _ _ h => (by cases h)⟩, endOk ?_⟩
         simp only [tt, seval, Tok.row, ho]
   ·have ej : j = lxRun l a := by rw [← he, lxRun_end (by omega)]
    subst ej
    simp only [tt, seval, h8, hlt, decide_false]
    have hsz : (lxCut l a (lxRun l a)).size ≤ 1048576 := by rw [cut_size]; omega
    refine dDrawn.intro [] (pln [0, 2, 4, 6, 8, 11, 12, 15]) (by kernel_rfl) ?_
    simp only [tt, seval]
    all_goals try simp only [tt, seval, h8]
    all_goals rw [pu_cut (by kernel_rfl) (show s.size ≤ 9223372036854775807 by omega) (by omega) (by omega) (by omega), Int.toNat_natCast, Int.toNat_natCast, cut_eq hl]
    generalize hx : lxCut l a (lxRun l a) = x at *
    simp only [tt, seval, h8]
    refine cZ (isDigit_d b.toNat) (by decide) ?_ ?_ <;> simp only [tt, seval, h8]
    cases hF : decide ((48 : Int) ≤ (b.toNat : Int) ∧ (b.toNat : Int) ≤ 57) with
    | true =>
     have hF' := of_decide_eq_true hF
     have hL : letB b.toNat = false := by unfold letB; simp only [Bool.or_eq_false_iff, decide_eq_false_iff_not]; omega
     have eF : ((48 : Int) ≤ (b.toNat : Int) ∧ (b.toNat : Int) ≤ 57) = True := eq_true hF'
     have hraw : lxRaw l a b = some (⟨3, x, a⟩, lxRun l a) := by
      unfold lxRaw
      simp only [lxLet, lxFig, hL, hF, if_true, Bool.false_eq_true, if_false, hx]
     simp only [tt, seval, eF, h8, true_implies, not_true_eq_false, false_implies, and_true]
     refine dDrawn.intro [] (pln [0, 2, 4, 7, 9, 10, 12]) (by kernel_rfl) ?_
     simp only [tt, seval]
     all_goals try simp only [tt, seval, h8]
     all_goals repeat' first | refine brC ?_ ?_ | refine brC2 ?_ ?_
     all_goals
      refine cZ (iTokenOk_d (Tok.mk 3 x a) hsz) (by decide) ?_ ?_ <;> simp only [tt, seval, Tok.row, h8]
     all_goals
      cases ho : okTok (Tok.mk 3 x a) with
      | true =>
       have e1 : lxOne l a b = some ((Tok.mk 3 x a), lxRun l a) := one_yes hraw ho
       rw [e1]
       refine ⟨.tu [(csOf (Tok.mk 3 x a).row, false), ([.v (.int .i64 ((lxRun l a : Nat) : Int))], true), ([.v (.bool true)], true)], [], ⟨(Tok.mk 3 x a), _, _, rfl, by rfl, fun t' e' h => by cases h; exact ⟨rfl, rfl⟩⟩, endOk ?_⟩
       simp only [tt, seval, Tok.row, ho]
      | false =>
       have e1 : lxOne l a b = none := one_no hraw ho
       rw [e1]
       refine ⟨.tu [(csOf (Tok.mk 3 x a).row, false), ([.v (.int .i64 ((lxRun l a : Nat) : Int))], true), ([.v (.bool false)], true)], [], ⟨(Tok.mk 3 x a), _, _, rfl, by rfl, by first | exact fun t' e' h => by cases h | exact fun _ _ h => (by cases h)⟩, endOk ?_⟩
       simp only [tt, seval, Tok.row, ho]
    | false =>
     have hF' := of_decide_eq_false hF
     have hL : letB b.toNat = true := by rw [hF, Bool.or_false] at hP; exact hP
     have eF : ((48 : Int) ≤ (b.toNat : Int) ∧ (b.toNat : Int) ≤ 57) = False := eq_false hF'
     have hraw : lxRaw l a b = some (if key x = 0 then ⟨2, x, a⟩ else ⟨1, foldB x, a⟩, lxRun l a) := by
      unfold lxRaw
      simp only [lxLet, hL, if_true, hx]
     simp only [tt, seval, eF, h8, false_implies, not_false_eq_true, true_implies, true_and]
     refine cZ (iKeyOf_d x hsz) (by decide) ?_ ?_ <;> simp only [tt, seval, h8]
     by_cases hk : key x = 0
     ·rw [if_pos hk] at hraw
      have ek : (!decide (key x = 0)) = false := by rw [decide_eq_true hk]; rfl
      have ek' : (¬ key x = 0) = False := eq_false (not_not_intro hk)
      have ek2 : (key x = 0) = True := eq_true hk
      simp only [tt, seval, ek2, h8, not_true_eq_false, false_implies, not_false_eq_true, true_implies, true_and, and_true]
      refine dDrawn.intro [] (pln [0, 2, 4, 7, 9, 10, 12]) (by kernel_rfl) ?_
      simp only [tt, seval]
      all_goals try simp only [tt, seval, h8]
      all_goals repeat' first | refine brC ?_ ?_ | refine brC2 ?_ ?_
      all_goals
       refine cZ (iTokenOk_d (Tok.mk 2 x a) hsz) (by decide) ?_ ?_ <;> simp only [tt, seval, Tok.row, h8]
      all_goals
       cases ho : okTok (Tok.mk 2 x a) with
       | true =>
        have e1 : lxOne l a b = some ((Tok.mk 2 x a), lxRun l a) := one_yes hraw ho
        rw [e1]
        refine ⟨.tu [(csOf (Tok.mk 2 x a).row, false), ([.v (.int .i64 ((lxRun l a : Nat) : Int))], true), ([.v (.bool true)], true)], [], ⟨(Tok.mk 2 x a), _, _, rfl, by rfl, fun t' e' h => by cases h; exact ⟨rfl, rfl⟩⟩, endOk ?_⟩
        simp only [tt, seval, Tok.row, ho]
       | false =>
        have e1 : lxOne l a b = none := one_no hraw ho
        rw [e1]
        refine ⟨.tu [(csOf (Tok.mk 2 x a).row, false), ([.v (.int .i64 ((lxRun l a : Nat) : Int))], true), ([.v (.bool false)], true)], [], ⟨(Tok.mk 2 x a), _, _, rfl, by rfl, by first | exact fun t' e' h => by cases h | exact fun _ _ h => (by cases h)⟩, endOk ?_⟩
        simp only [tt, seval, Tok.row, ho]
     ·rw [if_neg hk] at hraw
      have ek2 : (key x = 0) = False := eq_false hk
      simp only [tt, seval, ek2, h8, not_true_eq_false, false_implies, not_false_eq_true, true_implies, true_and, and_true]
      refine cZ (iFold_d x hsz) (by decide) ?_ ?_ <;> simp only [tt, seval, h8]
      refine dDrawn.intro [] (pln [0, 2, 4, 7, 9, 10, 12]) (by kernel_rfl) ?_
      simp only [tt, seval]
      all_goals try simp only [tt, seval, h8]
      all_goals repeat' first | refine brC ?_ ?_ | refine brC2 ?_ ?_
      all_goals
       refine cZ (iTokenOk_d (Tok.mk 1 (foldB x) a) (by show (foldB x).size ≤ _; rw [foldB_size]; exact hsz)) (by decide) ?_ ?_ <;> simp only [tt, seval, Tok.row, h8]
      all_goals
       cases ho : okTok (Tok.mk 1 (foldB x) a) with
       | true =>
        have e1 : lxOne l a b = some ((Tok.mk 1 (foldB x) a), lxRun l a) := one_yes hraw ho
        rw [e1]
        refine ⟨.tu [(csOf (Tok.mk 1 (foldB x) a).row, false), ([.v (.int .i64 ((lxRun l a : Nat) : Int))], true), ([.v (.bool true)], true)], [], ⟨(Tok.mk 1 (foldB x) a), _, _, rfl, by rfl, fun t' e' h => by cases h; exact ⟨rfl, rfl⟩⟩, endOk ?_⟩
        simp only [tt, seval, Tok.row, ho]
       | false =>
        have e1 : lxOne l a b = none := one_no hraw ho
        rw [e1]
        refine ⟨.tu [(csOf (Tok.mk 1 (foldB x) a).row, false), ([.v (.int .i64 ((lxRun l a : Nat) : Int))], true), ([.v (.bool false)], true)], [], ⟨(Tok.mk 1 (foldB x) a), _, _, rfl, by rfl, by first | exact fun t' e' h => by cases h | exact fun _ _ h => (by cases h)⟩, endOk ?_⟩
        simp only [tt, seval, Tok.row, ho]
 | false =>
  obtain ⟨hL, hF⟩ := Bool.or_eq_false_iff.1 hP
  try simp only [tt, seval, hP]
  by_cases hb34 : b = 34
  ·have d34 : decide ((b.toNat : Int) = 34) = true := decide_eq_true (by rw [hb34]; rfl)
   have e39 : ((b.toNat : Int) = 39) = False := eq_false (by rw [hb34]; decide)
   simp only [tt, seval, d34]
   have cq := readQuoted_d s a b hs (by rw [← hl]; exact hb)
   rw [← hl] at cq
   refine cZ (cq) (by decide) ?_ ?_ <;> simp only [tt, seval]
   have hqs := fun x e => lxQuot_spec (B := l) (q := b) (n := l.length + 1) (i := a + 1) (l := []) (x := x) (e := e)
   cases hq : lxQuot l b (l.length + 1) (a + 1) [] with
   | none =>
    have hr : lxRaw l a b = none := by rw [hb34] at hq ⊢; rw [raw_34, hq]; rfl
    have e1 : lxOne l a b = none := by unfold lxOne; rw [hr]
    rw [e1]
    simp only [tt, seval, iqRes, Bool.not_false]
    refine ⟨.tu [(csOf (Tok.mk 0 ⟨#[]⟩ 0).row, false), ([.v (.int .i64 0)], true), ([.v (.bool false)], true)], [], ⟨Tok.mk 0 ⟨#[]⟩ 0, _, _, by first | exact ⟨rfl, rfl, fun _ _ h => by cases h⟩ | exact ⟨rfl, rfl⟩ | rfl⟩, endOk ?_⟩
    simp only [tt, seval, Tok.row]
    first | done | rfl
   | some y =>
    obtain ⟨x, e⟩ := y
    have hr : lxRaw l a b = some (⟨2, ⟨x.toArray⟩, a⟩, e) := by rw [hb34] at hq ⊢; rw [raw_34, hq]; rfl
    have hqs := hqs x e hq
    simp only [tt, seval, iqRes, Bool.not_true, Bool.false_eq_true, e39, true_implies, not_true_eq_false, false_implies, and_true, not_false_eq_true, true_and]
    refine dDrawn.intro [] (pln [0, 2, 4, 7, 9, 10, 12]) (by kernel_rfl) ?_
    simp only [tt, seval]
    all_goals repeat' first | refine brC ?_ ?_ | refine brC2 ?_ ?_
    all_goals
     refine cZ (iTokenOk_d (Tok.mk 2 ⟨x.toArray⟩ a) (by show x.length ≤ _; simp only [List.length_nil] at hqs; omega)) (by decide) ?_ ?_ <;> simp only [tt, seval, Tok.row]
    all_goals
     cases ho : okTok (Tok.mk 2 ⟨x.toArray⟩ a) with
     | true =>
      have e1 : lxOne l a b = some ((Tok.mk 2 ⟨x.toArray⟩ a), e) := one_yes hr ho
      rw [e1]
      refine ⟨.tu [(csOf (Tok.mk 2 ⟨x.toArray⟩ a).row, false), ([.v (.int .i64 ((e : Nat) : Int))], true), ([.v (.bool true)], true)], [], ⟨(Tok.mk 2 ⟨x.toArray⟩ a), _, _, rfl, by rfl, fun t' e' h => by cases h; exact ⟨rfl, rfl⟩⟩, endOk ?_⟩
      simp only [tt, seval, Tok.row, ho]
     | false =>
      have e1 : lxOne l a b = none := one_no hr ho
      rw [e1]
      refine ⟨.tu [(csOf (Tok.mk 2 ⟨x.toArray⟩ a).row, false), ([.v (.int .i64 ((e : Nat) : Int))], true), ([.v (.bool false)], true)], [], ⟨(Tok.mk 2 ⟨x.toArray⟩ a), _, _, rfl, by rfl, by first | exact fun t' e' h => by cases h | exact fun _ _ h => (by cases h)⟩, endOk ?_⟩
      simp only [tt, seval, Tok.row, ho]
  ·have d34 : decide ((b.toNat : Int) = 34) = false := decide_eq_false fun h => hb34 (UInt8.toNat_inj.1 (by show b.toNat = 34; omega))
   by_cases hb39 : b = 39
   ·have d39 : decide ((b.toNat : Int) = 39) = true := decide_eq_true (by rw [hb39]; rfl)
    have e39 : ((b.toNat : Int) = 39) = True := eq_true (by rw [hb39]; rfl)
    simp only [tt, seval, d34, d39]
    have cq := readQuoted_d s a b hs (by rw [← hl]; exact hb)
    rw [← hl] at cq
    refine cZ (cq) (by decide) ?_ ?_ <;> simp only [tt, seval]
    have hqs := fun x e => lxQuot_spec (B := l) (q := b) (n := l.length + 1) (i := a + 1) (l := []) (x := x) (e := e)
    cases hq : lxQuot l b (l.length + 1) (a + 1) [] with
    | none =>
     have hr : lxRaw l a b = none := by rw [hb39] at hq ⊢; rw [raw_39, hq]; rfl
     have e1 : lxOne l a b = none := by unfold lxOne; rw [hr]
     rw [e1]
     simp only [tt, seval, iqRes, Bool.not_false]
     refine ⟨.tu [(csOf (Tok.mk 0 ⟨#[]⟩ 0).row, false), ([.v (.int .i64 0)], true), ([.v (.bool false)], true)], [], ⟨Tok.mk 0 ⟨#[]⟩ 0, _, _, by first | exact ⟨rfl, rfl, fun _ _ h => by cases h⟩ | exact ⟨rfl, rfl⟩ | rfl⟩, endOk ?_⟩
     simp only [tt, seval, Tok.row]
     first | done | rfl
    | some y =>
     obtain ⟨x, e⟩ := y
     have hr : lxRaw l a b = some (⟨4, ⟨x.toArray⟩, a⟩, e) := by rw [hb39] at hq ⊢; rw [raw_39, hq]; rfl
     have hqs := hqs x e hq
     simp only [tt, seval, iqRes, Bool.not_true, Bool.false_eq_true, e39, true_implies, not_true_eq_false, false_implies, and_true, not_false_eq_true, true_and]
     refine dDrawn.intro [] (pln [0, 2, 4, 7, 9, 10, 12]) (by kernel_rfl) ?_
     simp only [tt, seval]
     all_goals repeat' first | refine brC ?_ ?_ | refine brC2 ?_ ?_
     all_goals
      refine cZ (iTokenOk_d (Tok.mk 4 ⟨x.toArray⟩ a) (by show x.length ≤ _; simp only [List.length_nil] at hqs; omega)) (by decide) ?_ ?_ <;> simp only [tt, seval, Tok.row]
     all_goals
      cases ho : okTok (Tok.mk 4 ⟨x.toArray⟩ a) with
      | true =>
       have e1 : lxOne l a b = some ((Tok.mk 4 ⟨x.toArray⟩ a), e) := one_yes hr ho
       rw [e1]
       refine ⟨.tu [(csOf (Tok.mk 4 ⟨x.toArray⟩ a).row, false), ([.v (.int .i64 ((e : Nat) : Int))], true), ([.v (.bool true)], true)], [], ⟨(Tok.mk 4 ⟨x.toArray⟩ a), _, _, rfl, by rfl, fun t' e' h => by cases h; exact ⟨rfl, rfl⟩⟩, endOk ?_⟩
       simp only [tt, seval, Tok.row, ho]
      | false =>
       have e1 : lxOne l a b = none := one_no hr ho
       rw [e1]
       refine ⟨.tu [(csOf (Tok.mk 4 ⟨x.toArray⟩ a).row, false), ([.v (.int .i64 ((e : Nat) : Int))], true), ([.v (.bool false)], true)], [], ⟨(Tok.mk 4 ⟨x.toArray⟩ a), _, _, rfl, by rfl, by first | exact fun t' e' h => by cases h | exact fun _ _ h => (by cases h)⟩, endOk ?_⟩
       simp only [tt, seval, Tok.row, ho]
   ·have d39 : decide ((b.toNat : Int) = 39) = false := decide_eq_false fun h => hb39 (UInt8.toNat_inj.1 (by show b.toNat = 39; omega))
    have hraw : lxRaw l a b = some (⟨5, lxCut l a (lxSign l a), a⟩, lxSign l a) := by
     unfold lxRaw
     simp only [lxLet, lxFig, hL, hF, hb34, hb39, Bool.false_eq_true, if_false]
    simp only [tt, seval, d34, d39, Bool.false_eq_true]
    refine cZ (signs_d) (by decide) ?_ ?_ <;> simp only [tt, seval]
    refine dLoop.intro (fun f' L p => ∃ (i : Nat) (t : ByteArray), f' 24 = vi i ∧ i ≤ 16 ∧ BestI (signs.take i) (l.drop a) t ∧ L = [(7, .str [.v (.int .i64 5), .v (.string t), .v (.int .i64 a)]), (4, .str [.v (.int .i64 0), .v (.string ByteArray.empty), .v (.int .i64 0)])] ∧ p = none) (fun f' _ _ => (16 - ixS (f' 24)).toNat) [(7, .str [.v (.int .i64 5), .v (.string ByteArray.empty), .v (.int .i64 a)]), (4, .str [.v (.int .i64 0), .v (.string ByteArray.empty), .v (.int .i64 0)])] none ⟨SubO.cons rfl (SubO.cons rfl (SubO.nil _)), PoSub.none _, ?_⟩ ?_
    ·simp only [tt, seval]
     exact ⟨0, ByteArray.empty, rfl, by omega, BestI.nil _, rfl⟩
    ·rintro g L p ⟨i, t, h24, hi, hbest, rfl, rfl⟩
     simp only [tt, seval] at h24
     have ht20 : t.size ≤ 2 := by
      rcases hbest.got with rfl | ⟨h1, _⟩
      ·exact Nat.zero_le _
      ·exact (signs_size _ (List.mem_of_mem_take h1)).2
     have i16 : ((16 : Nat) : Int) = 16 := rfl
     simp only [tt, seval, h24]
     by_cases hlt : i < 16
     ·have hls : i < signs.length := hlt
      have c1 : ((i : Int) < 16) = True := eq_true (by omega)
      have hst : signs.take (i + 1) = signs.take i ++ [signs[i]] := List.take_succ_eq_append_getElem hls
      have hx : signs[i]? = some signs[i] := List.getElem?_eq_getElem hls
      have hsz := signs_size _ (List.getElem_mem hls)
      simp only [tt, seval, h24, c1, true_implies, not_true_eq_false, false_implies, and_true]
      refine ⟨by omega, _, drop_row srow_len hx, srow_ne _ _, ?_⟩
      generalize signs[i] = sg at *
      simp only [tt, seval, h24, srow_tk, srow]
      rw [pu_from (by kernel_rfl) (show s.size ≤ 9223372036854775807 by omega) (by omega) (by omega), Int.toNat_natCast, from_eq hl]
      simp only [tt, seval, h24]
      have cp := HasPrefix_d ⟨(l.drop a).toArray⟩ sg
      have epx : Lib.hasPrefix (⟨(l.drop a).toArray⟩ : ByteArray).data.toList sg.data.toList = sg.data.toList.isPrefixOf (l.drop a) := rfl
      rw [epx] at cp
      refine cZ (cp) (by decide) ?_ ?_ <;> simp only [tt, seval, h24]
      cases hpx : sg.data.toList.isPrefixOf (l.drop a) with
      | true =>
       have hpx' := List.isPrefixOf_iff_prefix.1 hpx
       simp only [tt, seval, h24, hpx]
       refine fun _ _ => And.intro (fun h => ?_) (fun h => ?_)
       ·rw [wrS i (by omega)]
        exact ⟨[(7, .str [.v (.int .i64 5), .v (.string sg), .v (.int .i64 a)]), (4, .str [.v (.int .i64 0), .v (.string ByteArray.empty), .v (.int .i64 0)])], none, SubO.cons rfl (SubO.cons rfl (SubO.nil _)), PoSub.none _, ⟨i + 1, sg, rfl, by omega, by rw [hst]; exact hbest.yes hpx' (by omega), rfl, rfl⟩, by simp only [ixS]; omega⟩
       ·rw [wrS i (by omega)]
        exact ⟨[(7, .str [.v (.int .i64 5), .v (.string t), .v (.int .i64 a)]), (4, .str [.v (.int .i64 0), .v (.string ByteArray.empty), .v (.int .i64 0)])], none, SubO.cons rfl (SubO.cons rfl (SubO.nil _)), PoSub.none _, ⟨i + 1, t, rfl, by omega, by rw [hst]; exact hbest.no fun _ => by omega, rfl, rfl⟩, by simp only [ixS]; omega⟩
      | false =>
       have hpx' : ¬ sg.data.toList <+: l.drop a := fun h => by rw [List.isPrefixOf_iff_prefix.2 h] at hpx; cases hpx
       simp only [tt, seval, h24, hpx, Bool.false_eq_true]
       rw [wrS i (by omega)]
       exact ⟨[(7, .str [.v (.int .i64 5), .v (.string t), .v (.int .i64 a)]), (4, .str [.v (.int .i64 0), .v (.string ByteArray.empty), .v (.int .i64 0)])], none, SubO.cons rfl (SubO.cons rfl (SubO.nil _)), PoSub.none _, ⟨i + 1, t, rfl, by omega, by rw [hst]; exact hbest.no fun h => absurd h hpx', rfl, rfl⟩, by simp only [ixS]; omega⟩
     ·have hi16 : i = 16 := by omega
      subst hi16
      have c1 : (((16 : Nat) : Int) < 16) = False := eq_false (by omega)
      have hbest : BestI signs (l.drop a) t := hbest
      simp only [tt, seval, h24, c1, false_implies, not_false_eq_true, true_implies, true_and]
      refine fun _ => ?_
      rw [wrap_id (n := (a : Int) + t.size) (by omega) (by omega)]
      refine dDrawn.intro [] (pln [0, 2, 4, 7, 9, 10, 12]) (by kernel_rfl) ?_
      simp only [tt, seval]
      all_goals try simp only [tt, seval, h24]
      all_goals repeat' first | refine brC ?_ ?_ | refine brC2 ?_ ?_
      all_goals
       refine cZ (iTokenOk_d (Tok.mk 5 t a) (by show t.size ≤ _; omega)) (by decide) ?_ ?_ <;> simp only [tt, seval, Tok.row, h24]
      all_goals
       rcases best_sign ha hbest with ⟨ht, hte⟩ | ⟨ht, hte⟩
       ·cases ho : okTok (Tok.mk 5 t a) with
        | true =>
         have e1 : lxOne l a b = some (Tok.mk 5 t a, lxSign l a) := one_yes (by rw [ht]; exact hraw) ho
         rw [e1]
         refine ⟨.tu [(csOf (Tok.mk 5 t a).row, false), ([.v (.int .i64 (lxSign l a : Nat))], true), ([.v (.bool true)], true)], [], ⟨Tok.mk 5 t a, _, _, rfl, by rfl, fun t' e' h => by cases h; exact ⟨rfl, rfl⟩⟩, endOk ?_⟩
         simp only [tt, seval, Tok.row, ho]
         omega
        | false =>
         have e1 : lxOne l a b = none := one_no hraw (by rw [← ht]; exact ho)
         rw [e1]
         refine ⟨.tu [(csOf (Tok.mk 5 t a).row, false), ([.v (.int .i64 ((a : Int) + t.size))], true), ([.v (.bool false)], true)], [], ⟨Tok.mk 5 t a, _, _, rfl, by rfl, by first | exact fun t' e' h => by cases h | exact fun _ _ h => (by cases h)⟩, endOk ?_⟩
         simp only [tt, seval, Tok.row, ho]
       ·have ho : okTok (Tok.mk 5 t a) = false := ht
        have e1 : lxOne l a b = none := one_no hraw hte
        rw [e1]
        refine ⟨.tu [(csOf (Tok.mk 5 t a).row, false), ([.v (.int .i64 ((a : Int) + t.size))], true), ([.v (.bool false)], true)], [], ⟨Tok.mk 5 t a, _, _, rfl, by rfl, by first | exact fun t' e' h => by cases h | exact fun _ _ h => (by cases h)⟩, endOk ?_⟩
        simp only [tt, seval, Tok.row, ho]
set_option maxHeartbeats 4000000 in
theorem iLex_d (s : ByteArray) : Cl Tryz.prog 35 [vs s] [] fun r _ => r = .tu [([.sl (lexV (lexR s)).1.length ((lexV (lexR s)).1.flatMap Tok.row) none], true), ([.v (.int .i64 (lexV (lexR s)).2)], true)] := by
 obtain ⟨l, hl⟩ : ∃ l, l = s.data.toList := ⟨_, rfl⟩
 have hll : l.length = s.size := by rw [hl]; exact size_toList s
 obtain ⟨rr, hrr⟩ := lxGo_df (B := l) (l.length + 1) 0 [] (by omega) (by omega)
 refine cl_of_d follows_mixed false Tryz.func35 rfl (by kernel_rfl) ?_
 simp only [Tryz.f35, tt, seval]
 refine fun _ => And.intro (fun hg => ?_) (fun hg => ?_)
 ·have e : lexR s = .inr 2000 := by unfold lexR; rw [if_pos (by omega)]
  rw [e]
  refine ⟨.tu [([.sl 0 [] none], true), ([.v (.int .i64 2000)], true)], [], rfl, endOk ?_⟩
  simp only [tt, seval]
 have hs : s.size ≤ 1048576 := by omega
 have e : lexR s = rr := by unfold lexR; rw [if_neg (by omega), ← hl, hrr]; rfl
 rw [e]
 refine dLoop.gh [.ren 14 42] ⟨by decide, by decide, ?_⟩
 refine dLoop0.intro (fun f' L p => ∃ (i n : Nat) (m : List Tok), f' 5 = vi i ∧ f' 4 = .c (.s 42 m.length) ∧ i ≤ s.size ∧ m.length ≤ i ∧ lxGo l n i m = some rr ∧ l.length + 1 ≤ n + i ∧ L = [(42, .arr 87 m.length (m.flatMap Tok.row) none)] ∧ p = none) (fun f' _ _ => (s.size - ixS (f' 5)).toNat) [(42, .arr 87 0 [] none)] none ⟨SubO.cons rfl (SubO.nil _), PoSub.none _, ?_⟩ ?_
 ·simp only [tt, seval]
  exact ⟨0, l.length + 1, [], rfl, rfl, by omega, by simp, hrr, by omega, rfl⟩
 ·rintro g L p ⟨i, n, m, h5, h4, hi, hml, he, hn, rfl, rfl⟩
  simp only [tt, seval] at h5 h4
  cases n with
  | zero => exact absurd hn (by omega)
  | succ n =>
  rw [lxGo] at he
  obtain ⟨q, okb, hp, hiq, hqs⟩ := lxPass_df (B := l) (l.length + 1) i (by omega) (by omega)
  rw [hp] at he
  simp only at he
  have cp := skip_d s i hs hi
  rw [← hl, hp] at cp
  simp only [tt, seval, h5, h4]
  refine cZ (cp) (by decide) ?_ ?_ <;> simp only [tt, seval, h5, h4, sRes]
  cases okb with
  | false =>
   rw [if_pos rfl] at he
   injection he with he; subst he
   simp only [tt, seval, Bool.not_false]
   refine ⟨.tu [([.sl 0 [] none], true), ([.v (.int .i64 (q : Nat))], true)], [], rfl, endOk ?_⟩
   simp only [tt, seval]
  | true =>
   rw [if_neg (by simp)] at he
   simp only [tt, seval, h4, h5, Bool.not_true, Bool.false_eq_true, not_false_eq_true, true_implies, false_implies, true_and]
   refine fun _ => ?_
   by_cases hqe : s.size ≤ q
   ·have hq1 : ((q : Int) = (s.size : Int)) = True := eq_true (by omega)
    have hq2 : (q = s.size) = True := eq_true (by omega)
    rw [List.getElem?_eq_none_iff.2 (by omega)] at he
    simp only at he
    injection he with he; subst he
    simp only [tt, seval, h4, h5, hq1, hq2, true_implies, not_true_eq_false, false_implies, and_true]
    refine ⟨.tu [([.sl m.length (m.flatMap Tok.row) none], true), ([.v (.int .i64 (-1))], true)], [], rfl, endOk ?_⟩
    simp only [tt, seval]
   ·have hq1 : ((q : Int) = (s.size : Int)) = False := eq_false (by omega)
    have hq2 : (q = s.size) = False := eq_false (by omega)
    have hql : q < l.length := by omega
    have hb : l[q]? = some l[q] := List.getElem?_eq_getElem hql
    rw [hb] at he
    simp only at he
    have co := readToken_d s q l[q] hs (by rw [← hl]; exact hb)
    rw [← hl] at co
    have osp := fun t e => lxOne_spec (e := e) (t := t) hb
    generalize l[q] = b at *
    simp only [tt, seval, h4, h5, hq1, hq2, not_false_eq_true, true_implies, false_implies, true_and]
    cases ho : lxOne l q b with
    | none =>
     rw [ho] at he co
     simp only at he
     injection he with he; subst he
     refine call0 (co) ?_ ?_ ?_
     ·decide
     ·simp only [tt, seval, h4, h5, Tok.row, Option.isSome_none, Bool.not_false]
     rintro r ⟨t, e2, ok2, rfl, rfl, _⟩
     simp only [tt, seval, h4, h5, Tok.row, Option.isSome_none, Bool.not_false]
     refine ⟨.tu [([.sl 0 [] none], true), ([.v (.int .i64 (q : Nat))], true)], [], rfl, endOk ?_⟩
     simp only [tt, seval]
    | some y =>
     obtain ⟨t, e⟩ := y
     rw [ho] at he co
     simp only at he
     obtain ⟨he1, he2, _⟩ := osp t e ho
     refine call0 (co) ?_ ?_ ?_
     ·decide
     ·simp only [tt, seval, h4, h5, Tok.row, Option.isSome_some, Bool.not_true, Bool.false_eq_true]
     rintro r ⟨t', e2, ok2, rfl, rfl, ht⟩
     simp only [tt, seval, h4, h5, Tok.row, Option.isSome_some, Bool.not_true, Bool.false_eq_true]
     obtain ⟨rfl, rfl⟩ := ht t e rfl
     refine ⟨by kernel_rfl, ⟨by simp only [maxLen]; omega, by omega⟩, ?_⟩
     refine ⟨[(42, .arr 87 (m ++ [t']).length ((m ++ [t']).flatMap Tok.row) none)], none, by simp only [List.flatMap_append, List.length_append, List.flatMap_cons, List.flatMap_nil, List.append_nil, Tok.row]; exact SubO.cons rfl (SubO.nil _), PoSub.none _, ⟨e, n, m ++ [t'], rfl, by simp, by omega, by simp; omega, he, by omega, rfl, rfl⟩, by simp only [ixS]; omega⟩
end Go.Proofs.YtfddkbckoapmfaaGreatDoor
