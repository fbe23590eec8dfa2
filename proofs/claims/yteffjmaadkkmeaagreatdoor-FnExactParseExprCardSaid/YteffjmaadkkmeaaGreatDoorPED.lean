/-
  The program's parser.
  Conditions: none.
-/
import Derived.Test.YteffjmaadkkmeaaGreatDoorPEC
set_option linter.unusedVariables false
set_option linter.unusedSimpArgs false
set_option linter.unusedSectionVars false
set_option maxRecDepth 8000
namespace Go.Proofs.YteffjmaadkkmeaaGreatDoor
open Go Go.Dv
open Go.Vc (D shrI xorI andI and255)
theorem pis_d (L : List Tok) (hL : L.length ≤ 1048576) (hT : ∀ t ∈ L, t.text.size ≤ 1048576) (s : PS) (k : Nat) (kind : Nat) (x : ByteArray) (hk : k ≤ 100) (ha : s.a ≤ L.length) : Cl Tryz.prog 165 [.c (.p 9000 0), vi k, vi kind, vs x] [PB L s] fun r os => r = vb (isT L s k kind x) ∧ os = [PB L s] := by
 obtain ⟨a, b⟩ := s
 have ha : a ≤ L.length := ha
 have hw : IntKind.i64.wrap ((a : Int) + k) = ((a + k : Nat) : Int) := wrap_id (n := (a : Int) + k) (by omega) (by omega)
 cases b with
 | true =>
  have e : isT L ⟨a, true⟩ k kind x = false := rfl
  rw [e]
  refine cl_of_d follows_mixed false Tryz.func165 rfl (by kernel_rfl) ?_
  simp only [Tryz.f165, tt, seval]
  simp only [tt, seval, PB, hw]
  refine ⟨_, [PB L ⟨a, true⟩], ⟨rfl, rfl⟩, endOk ?_⟩
  simp only [tt, seval, PB]
 | false =>
  refine cl_of_d follows_mixed false Tryz.func165 rfl (by kernel_rfl) ?_
  simp only [Tryz.f165, tt, seval]
  simp only [tt, seval, PB, hw]
  refine fun _ => ?_
  by_cases hlt : a + k < L.length
  ·have h1 : decide (((a + k : Nat) : Int) < (L.length : Int)) = true := decide_eq_true (by omega)
   have hx : L[a + k]? = some L[a + k] := List.getElem?_eq_getElem hlt
   have e : isT L ⟨a, false⟩ k kind x = (decide (L[a + k].kind = kind) && decide (L[a + k].text = x)) := by
    unfold isT tkAt
    simp only [Bool.false_eq_true, if_false, hx]
   have i0 : ((0 : Int) ≤ ((a + k : Nat) : Int)) = True := eq_true (by omega)
   have iL : (((a + k : Nat) : Int) < (L.length : Int)) = True := eq_true (by omega)
   have iT : (a + k < L.length) = True := eq_true hlt
   rw [e]
   generalize L[a + k] = tk at *
   generalize a + k = j at *
   simp only [tt, seval, h1, idxAt hx Tok.row_len, i0, iL, iT, Tok.row]
   cases hk1 : decide (tk.kind = (kind : Int)) with
   | true =>
    simp only [tt, seval, hk1, idxAt hx Tok.row_len, i0, iL, iT, Tok.row]
    trace_state
    refine ⟨_, [PB L ⟨a, false⟩], ⟨rfl, rfl⟩, endOk ?_⟩
    simp only [tt, seval, PB]
   | false =>
    simp only [tt, seval, hk1, idxAt hx Tok.row_len, i0, iL, iT, Tok.row]
    trace_state
    refine ⟨_, [PB L ⟨a, false⟩], ⟨rfl, rfl⟩, endOk ?_⟩
    simp only [tt, seval, PB]
  ·have h1 : decide (((a + k : Nat) : Int) < (L.length : Int)) = false := decide_eq_false (by omega)
   have e : isT L ⟨a, false⟩ k kind x = false := by
    unfold isT tkAt
    simp only [Bool.false_eq_true, if_false, List.getElem?_eq_none_iff.2 (show L.length ≤ a + k by omega)]
   rw [e]
   simp only [tt, seval, h1]
   refine ⟨_, [PB L ⟨a, false⟩], ⟨rfl, rfl⟩, endOk ?_⟩
   simp only [tt, seval, PB]
theorem pisKind_d (L : List Tok) (hL : L.length ≤ 1048576) (hT : ∀ t ∈ L, t.text.size ≤ 1048576) (s : PS) (k : Nat) (ha : s.a ≤ L.length) : Cl Tryz.prog 164 [.c (.p 9000 0), vi k] [PB L s] fun r os => r = vb (isK L s k) ∧ os = [PB L s] := by
 obtain ⟨a, b⟩ := s
 have ha : a ≤ L.length := ha
 cases b with
 | true =>
  have e : isK L ⟨a, true⟩ k = false := rfl
  rw [e]
  refine cl_of_d follows_mixed false Tryz.func164 rfl (by kernel_rfl) ?_
  simp only [Tryz.f164, tt, seval]
  refine dDrawn.intro [] (pln [0, 2, 4, 6, 8, 10, 12, 14, 16, 18, 20, 22, 24, 26, 28, 30, 32, 34, 36, 38, 40, 42, 44, 46, 48, 50, 52, 54, 56, 58, 60, 62, 64, 66, 68, 70, 72, 74, 76, 78, 80, 82, 84, 87, 88, 90]) (by kernel_rfl) ?_
  simp only [tt, seval]
  simp only [tt, seval, PB]
  refine ⟨_, [PB L ⟨a, true⟩], ⟨rfl, rfl⟩, endOk ?_⟩
  simp only [tt, seval, PB]
 | false =>
  refine cl_of_d follows_mixed false Tryz.func164 rfl (by kernel_rfl) ?_
  simp only [Tryz.f164, tt, seval]
  refine dDrawn.intro [] (pln [0, 2, 4, 6, 8, 10, 12, 14, 16, 18, 20, 22, 24, 26, 28, 30, 32, 34, 36, 38, 40, 42, 44, 46, 48, 50, 52, 54, 56, 58, 60, 62, 64, 66, 68, 70, 72, 74, 76, 78, 80, 82, 84, 87, 88, 90]) (by kernel_rfl) ?_
  simp only [tt, seval]
  simp only [tt, seval, PB]
  refine fun _ => ?_
  by_cases hlt : a < L.length
  ·have h1 : decide ((a : Int) < (L.length : Int)) = true := decide_eq_true (by omega)
   have hx : L[a]? = some L[a] := List.getElem?_eq_getElem hlt
   have ht := hT L[a] (List.getElem_mem hlt)
   have e : isK L ⟨a, false⟩ k = (decide (L[a].kind = k) && okTok L[a]) := by
    unfold isK tkAt
    simp only [Bool.false_eq_true, if_false, Nat.add_zero, hx]
   have i0 : ((0 : Int) ≤ (a : Int)) = True := eq_true (by omega)
   have iL : ((a : Int) < (L.length : Int)) = True := eq_true (by omega)
   have iT : (a < L.length) = True := eq_true hlt
   rw [e]
   generalize L[a] = tk at *
   simp only [tt, seval, h1, idxAt hx Tok.row_len, i0, iL, iT, Tok.row]
   cases hk1 : decide (tk.kind = (k : Int)) with
   | true =>
    simp only [tt, seval, hk1, idxAt hx Tok.row_len, i0, iL, iT, Tok.row]
    refine call0 (iTokenOk_d tk ht) ?_ ?_ ?_
    ·decide
    ·simp only [tt, seval, Tok.row]
    rintro r rfl
    simp only [tt, seval, Tok.row]
    refine ⟨_, [PB L ⟨a, false⟩], ⟨rfl, rfl⟩, endOk ?_⟩
    simp only [tt, seval, PB]
   | false =>
    simp only [tt, seval, hk1]
    refine ⟨_, [PB L ⟨a, false⟩], ⟨rfl, rfl⟩, endOk ?_⟩
    simp only [tt, seval, PB]
  ·have h1 : decide ((a : Int) < (L.length : Int)) = false := decide_eq_false (by omega)
   have e : isK L ⟨a, false⟩ k = false := by
    unfold isK tkAt
    simp only [Bool.false_eq_true, if_false, Nat.add_zero, List.getElem?_eq_none_iff.2 (show L.length ≤ a by omega)]
   rw [e]
   simp only [tt, seval, h1]
   refine ⟨_, [PB L ⟨a, false⟩], ⟨rfl, rfl⟩, endOk ?_⟩
   simp only [tt, seval, PB]
theorem pisKey_d (L : List Tok) (hL : L.length ≤ 1048576) (hT : ∀ t ∈ L, t.text.size ≤ 1048576) (s : PS) (k : Nat) (w : ByteArray) (hw : w = kw k) (ha : s.a ≤ L.length) : Cl Tryz.prog 114 [.c (.p 9000 0), vs w] [PB L s] fun r os => r = vb (isKey L s k) ∧ os = [PB L s] := by
 subst hw
 rw [show isKey L s k = isT L s 0 1 (kw k) from rfl]
 refine cl_of_d follows_mixed false Tryz.func114 rfl (by kernel_rfl) ?_
 simp only [Tryz.f114, tt, seval]
 refine CallQ.intro (pis_d L hL hT s 0 1 (kw k) (by omega) ha) ?_ ?_ ?_
 ·decide
 ·simp only [tt, seval, PB]
 rintro r os ⟨rfl, rfl⟩ hos
 simp only [tt, seval, PB]
 refine ⟨_, [PB L s], ⟨rfl, rfl⟩, endOk ?_⟩
 simp only [tt, seval, PB]
theorem pisSign_d (L : List Tok) (hL : L.length ≤ 1048576) (hT : ∀ t ∈ L, t.text.size ≤ 1048576) (s : PS) (c : UInt8) (ha : s.a ≤ L.length) : Cl Tryz.prog 167 [.c (.p 9000 0), vs ⟨#[c]⟩] [PB L s] fun r os => r = vb (isSg L s c) ∧ os = [PB L s] := by
 rw [show isSg L s c = isT L s 0 5 ⟨#[c]⟩ from rfl]
 refine cl_of_d follows_mixed false Tryz.func167 rfl (by kernel_rfl) ?_
 simp only [Tryz.f167, tt, seval]
 refine CallQ.intro (pis_d L hL hT s 0 5 ⟨#[c]⟩ (by omega) ha) ?_ ?_ ?_
 ·decide
 ·simp only [tt, seval, PB]
 rintro r os ⟨rfl, rfl⟩ hos
 simp only [tt, seval, PB]
 refine ⟨_, [PB L s], ⟨rfl, rfl⟩, endOk ?_⟩
 simp only [tt, seval, PB]
theorem ptakeKey_d (L : List Tok) (hL : L.length ≤ 1048576) (hT : ∀ t ∈ L, t.text.size ≤ 1048576) (s : PS) (k : Nat) (w : ByteArray) (hw : w = kw k) (ha : s.a ≤ L.length) : Cl Tryz.prog 102 [.c (.p 9000 0), vs w] [PB L s] fun r os => r = vb (isKey L s k) ∧ os = [PB L (tkIf (isKey L s k) s)] := by
 refine cl_of_d follows_mixed false Tryz.func102 rfl (by kernel_rfl) ?_
 simp only [Tryz.f102, tt, seval]
 refine CallQ.intro (pisKey_d L hL hT s k w hw ha) ?_ ?_ ?_
 ·decide
 ·simp only [tt, seval, PB]
 rintro r os ⟨rfl, rfl⟩ hos
 simp only [tt, seval, PB]
 cases c : isKey L s k with
 | true =>
  have hlt := (isKey_lt c).2
  simp only [tt, seval]
  rw [wrap_id (n := (s.a : Int) + 1) (by omega) (by omega)]
  try simp only [tt, seval]
  refine ⟨_, [PB L (adv s)], ⟨rfl, rfl⟩, endOk ?_⟩
  simp only [tt, seval, PB, adv]
  omega
 | false =>
  simp only [tt, seval, Bool.false_eq_true]
  refine ⟨_, [PB L s], ⟨rfl, rfl⟩, endOk ?_⟩
  simp only [tt, seval, PB]
theorem ptakeSign_d (L : List Tok) (hL : L.length ≤ 1048576) (hT : ∀ t ∈ L, t.text.size ≤ 1048576) (s : PS) (c : UInt8) (ha : s.a ≤ L.length) : Cl Tryz.prog 104 [.c (.p 9000 0), vs ⟨#[c]⟩] [PB L s] fun r os => r = vb (isSg L s c) ∧ os = [PB L (tkIf (isSg L s c) s)] := by
 refine cl_of_d follows_mixed false Tryz.func104 rfl (by kernel_rfl) ?_
 simp only [Tryz.f104, tt, seval]
 refine CallQ.intro (pisSign_d L hL hT s c ha) ?_ ?_ ?_
 ·decide
 ·simp only [tt, seval, PB]
 rintro r os ⟨rfl, rfl⟩ hos
 simp only [tt, seval, PB]
 cases c : isSg L s c with
 | true =>
  have hlt := (isSg_lt c).2
  simp only [tt, seval]
  rw [wrap_id (n := (s.a : Int) + 1) (by omega) (by omega)]
  try simp only [tt, seval]
  refine ⟨_, [PB L (adv s)], ⟨rfl, rfl⟩, endOk ?_⟩
  simp only [tt, seval, PB, adv]
  omega
 | false =>
  simp only [tt, seval, Bool.false_eq_true]
  refine ⟨_, [PB L s], ⟨rfl, rfl⟩, endOk ?_⟩
  simp only [tt, seval, PB]
theorem pmustKey_d (L : List Tok) (hL : L.length ≤ 1048576) (hT : ∀ t ∈ L, t.text.size ≤ 1048576) (s : PS) (k : Nat) (w : ByteArray) (hw : w = kw k) (ha : s.a ≤ L.length) : Cl Tryz.prog 101 [.c (.p 9000 0), vs w] [PB L s] fun r os => r = .tu [] ∧ os = [PB L (must (isKey L s k) s)] := by
 refine cl_of_d follows_mixed false Tryz.func101 rfl (by kernel_rfl) ?_
 simp only [Tryz.f101, tt, seval]
 refine CallQ.intro (ptakeKey_d L hL hT s k w hw ha) ?_ ?_ ?_
 ·decide
 ·simp only [tt, seval, PB]
 rintro r os ⟨rfl, rfl⟩ hos
 simp only [tt, seval, PB]
 cases c : isKey L s k with
 | true =>
  simp only [tt, seval, tkT, muT, Bool.not_true, Bool.false_eq_true]
  refine ⟨_, [PB L (adv s)], ⟨rfl, rfl⟩, endOk ?_⟩
  simp only [tt, seval, PB]
 | false =>
  simp only [tt, seval, tkF, muF, Bool.not_false]
  refine ⟨_, [PB L (fl s)], ⟨rfl, rfl⟩, endOk ?_⟩
  simp only [tt, seval, PB, fl]
theorem pmustSign_d (L : List Tok) (hL : L.length ≤ 1048576) (hT : ∀ t ∈ L, t.text.size ≤ 1048576) (s : PS) (c : UInt8) (ha : s.a ≤ L.length) : Cl Tryz.prog 171 [.c (.p 9000 0), vs ⟨#[c]⟩] [PB L s] fun r os => r = .tu [] ∧ os = [PB L (must (isSg L s c) s)] := by
 refine cl_of_d follows_mixed false Tryz.func171 rfl (by kernel_rfl) ?_
 simp only [Tryz.f171, tt, seval]
 refine CallQ.intro (ptakeSign_d L hL hT s c ha) ?_ ?_ ?_
 ·decide
 ·simp only [tt, seval, PB]
 rintro r os ⟨rfl, rfl⟩ hos
 simp only [tt, seval, PB]
 cases c : isSg L s c with
 | true =>
  simp only [tt, seval, tkT, muT, Bool.not_true, Bool.false_eq_true]
  refine ⟨_, [PB L (adv s)], ⟨rfl, rfl⟩, endOk ?_⟩
  simp only [tt, seval, PB]
 | false =>
  simp only [tt, seval, tkF, muF, Bool.not_false]
  refine ⟨_, [PB L (fl s)], ⟨rfl, rfl⟩, endOk ?_⟩
  simp only [tt, seval, PB, fl]
theorem pmustKind_d (L : List Tok) (hL : L.length ≤ 1048576) (hT : ∀ t ∈ L, t.text.size ≤ 1048576) (s : PS) (k : Nat) (ha : s.a ≤ L.length) : Cl Tryz.prog 115 [.c (.p 9000 0), vi k] [PB L s] fun r os => r = vs (mText L k s).1 ∧ os = [PB L (mText L k s).2] := by
 refine cl_of_d follows_mixed false Tryz.func115 rfl (by kernel_rfl) ?_
 simp only [Tryz.f115, tt, seval]
 refine CallQ.intro (pisKind_d L hL hT s k ha) ?_ ?_ ?_
 ·decide
 ·simp only [tt, seval, PB]
 rintro r os ⟨rfl, rfl⟩ hos
 simp only [tt, seval, PB]
 cases c : isK L s k with
 | true =>
  obtain ⟨hb, hlt⟩ := isK_lt c
  rw [mt_yes c]
  simp only [tt, seval, Bool.not_true, Bool.false_eq_true]
  rw [wrap_id (n := (s.a : Int) + 1) (by omega) (by omega)]
  try simp only [tt, seval]
  refine dDrawn.intro [] (pln [0, 2, 4, 6, 8, 10, 12, 14, 16, 18, 20, 22, 24]) (by kernel_rfl) ?_
  simp only [tt, seval]
  try simp only [tt, seval]
  have e1 : IntKind.i64.wrap ((s.a : Int) + 1 - 1) = s.a := by rw [wrap_id (n := (s.a : Int) + 1 - 1) (by omega) (by omega)]; omega
  have hx : L[s.a]? = some L[s.a] := List.getElem?_eq_getElem hlt
  have e2 : textAt L s = L[s.a].text := by
   unfold textAt tkAt
   rw [hb]
   simp only [Bool.false_eq_true, if_false, Nat.add_zero, hx]
  have i0 : ((0 : Int) ≤ (s.a : Int)) = True := eq_true (by omega)
  have iL : ((s.a : Int) < (L.length : Int)) = True := eq_true (by omega)
  have iT : (s.a < L.length) = True := eq_true hlt
  rw [e2]
  generalize L[s.a] = tk at *
  simp only [tt, seval, e1, idxAt hx Tok.row_len, i0, iL, iT, Tok.row]
  refine ⟨_, [PB L (adv s)], ⟨rfl, rfl⟩, endOk ?_⟩
  simp only [tt, seval, PB, adv]
  omega
 | false =>
  have e : mText L k s = (⟨#[]⟩, fl s) := by rw [mText, if_neg (by rw [c]; simp)]
  rw [e]
  simp only [tt, seval, Bool.not_false]
  refine ⟨vs ⟨#[]⟩, [PB L (fl s)], ⟨rfl, rfl⟩, endOk ?_⟩
  simp only [tt, seval, PB, fl]
theorem pmustNumber_d (L : List Tok) (hL : L.length ≤ 1048576) (hT : ∀ t ∈ L, t.text.size ≤ 1048576) (s : PS) (ha : s.a ≤ L.length) : Cl Tryz.prog 108 [.c (.p 9000 0)] [PB L s] fun r os => r = vi (mNum L s).1 ∧ os = [PB L (mNum L s).2] := by
 have hsz : (mText L 3 s).1.size ≤ 1048576 := by
  unfold mText
  split
  ·exact text_small hL hT s
  ·exact Nat.zero_le _
 have e : mNum L s = (numV (mText L 3 s).1, (mText L 3 s).2) := rfl
 rw [e]
 refine cl_of_d follows_mixed false Tryz.func108 rfl (by kernel_rfl) ?_
 simp only [Tryz.f108, tt, seval]
 refine CallQ.intro (pmustKind_d L hL hT s 3 ha) ?_ ?_ ?_
 ·decide
 ·simp only [tt, seval, PB]
 rintro r os ⟨rfl, rfl⟩ hos
 simp only [tt, seval, PB]
 generalize (mText L 3 s).1 = x at *
 refine call0 (iNumber_d x hsz) ?_ ?_ ?_
 ·decide
 ·simp only [tt, seval, numS]
 rintro r rfl
 simp only [tt, seval, numS]
 refine ⟨_, [PB L (mText L 3 s).2], ⟨rfl, rfl⟩, endOk ?_⟩
 simp only [tt, seval, PB]
theorem pend_d (L : List Tok) (hL : L.length ≤ 1048576) (hT : ∀ t ∈ L, t.text.size ≤ 1048576) (s : PS) (ha : s.a ≤ L.length) : Cl Tryz.prog 43 [.c (.p 9000 0)] [PB L s] fun r os => r = vi (endM L s) ∧ os = [PB L s] := by
 refine cl_of_d follows_mixed false Tryz.func43 rfl (by kernel_rfl) ?_
 simp only [Tryz.f43, tt, seval]
 refine dDrawn.intro [] (pln [0, 2, 4, 6, 8, 10, 12, 14, 16, 18, 20, 22, 24, 26, 28, 30]) (by kernel_rfl) ?_
 simp only [tt, seval]
 simp only [tt, seval, PB]
 cases hb : s.b with
 | true =>
  have e : endM L s = s.a := if_neg (by rw [hb]; simp)
  rw [e]
  simp only [tt, seval]
  exact ⟨_, _, ⟨rfl, rfl⟩, endOk (by simp only [tt, seval])⟩
 | false =>
  simp only [tt, seval]
  refine fun _ => And.intro (fun he => ?_) (fun he => ?_)
  ·have e : endM L s = s.a := if_neg (by omega)
   rw [e]
   exact ⟨_, _, ⟨rfl, rfl⟩, endOk (by simp only [tt, seval])⟩
  ·have e : endM L s = -1 := if_pos ⟨hb, by omega⟩
   rw [e]
   exact ⟨_, _, ⟨rfl, rfl⟩, endOk (by simp only [tt, seval])⟩
theorem pas_d (L : List Tok) (hL : L.length ≤ 1048576) (hT : ∀ t ∈ L, t.text.size ≤ 1048576) (s : PS) (ha : s.a ≤ L.length) : Cl Tryz.prog 166 [.c (.p 9000 0)] [PB L s] fun r os => r = vs (asM L s).1 ∧ os = [PB L (asM L s).2] := by
 refine cl_of_d follows_mixed false Tryz.func166 rfl (by kernel_rfl) ?_
 simp only [Tryz.f166, tt, seval]
 refine CallQ.intro (ptakeKey_d L hL hT s 12 ⟨#[65, 83]⟩ (by kernel_rfl) ha) ?_ ?_ ?_
 ·decide
 ·simp only [tt, seval, PB]
 rintro r os ⟨rfl, rfl⟩ hos
 simp only [tt, seval, PB]
 cases c : isKey L s 12 with
 | true =>
  have hm : asM L s = mText L 2 (adv s) := by rw [asM, if_pos c]
  rw [hm]
  simp only [tt, seval, tkT, tkF, muT, muF]
  refine CallQ.intro (pmustKind_d L hL hT (adv s) 2 (adv_le (isKey_lt c))) ?_ ?_ ?_
  ·decide
  ·simp only [tt, seval, PB]
  rintro r os ⟨rfl, rfl⟩ hos
  simp only [tt, seval, PB]
  refine ⟨_, [PB L (mText L 2 (adv s)).2], ⟨rfl, rfl⟩, endOk ?_⟩
  simp only [tt, seval, PB]
 | false =>
  have hm : asM L s = (z0, s) := by rw [asM, if_neg (by rw [c]; simp)]
  rw [hm]
  simp only [tt, seval, tkT, tkF, muT, muF, Bool.false_eq_true]
  refine ⟨vs z0, [PB L s], ⟨rfl, rfl⟩, endOk ?_⟩
  simp only [tt, seval, PB, z0]
def nrow (n : Nat) : List D := [.lit (.int .i64 n)]
theorem nrow_len (n : Nat) : (nrow n).length = 1 := rfl
theorem ptakeOp_d (L : List Tok) (hL : L.length ≤ 1048576) (hT : ∀ t ∈ L, t.text.size ≤ 1048576) (s : PS) (ops : List Nat) (hn : ops.length ≤ 100) (ho : ∀ op ∈ ops, 1 ≤ op ∧ op ≤ 100) (ha : s.a ≤ L.length) : Cl Tryz.prog 158 [.c (.p 9000 0), .c (.sl ops.length (ops.flatMap nrow) none)] [PB L s] fun r os => r = vi (opIn L s ops) ∧ os = [PB L (tkIf (decide (opIn L s ops ≠ 0)) s)] := by
 refine cl_of_d follows_mixed false Tryz.func158 rfl (by kernel_rfl) ?_
 simp only [Tryz.f158, tt, seval]
 refine fun _ => ?_
 refine dLoop.intro (fun f Lo p => ∃ i : Nat, f 10 = vi i ∧ i ≤ ops.length ∧ opIn L s (ops.drop i) = opIn L s ops ∧ Lo = [(9000, .str (PB L s))] ∧ p = none) (fun f _ _ => (ops.length - ixS (f 10)).toNat) [(9000, .str (PB L s))] none ⟨SubO.cons rfl (SubO.nil _), PoSub.none _, ?_⟩ ?_
 ·simp only [tt, seval]
  exact ⟨0, rfl, Nat.zero_le _, rfl⟩
 ·rintro g Lo p ⟨i, h10, hi, hin, rfl, rfl⟩
  simp only [tt, seval] at h10
  simp only [tt, seval, h10, Int.ofNat_lt]
  refine And.intro (fun hlt => ?_) (fun hge => ?_)
  ·have hlt : i < ops.length := by omega
   have hx : ops[i]? = some ops[i] := List.getElem?_eq_getElem hlt
   obtain ⟨ho1, ho2⟩ := ho ops[i] (List.getElem_mem hlt)
   rw [List.drop_eq_getElem_cons hlt, opIn] at hin
   refine ⟨by omega, by omega, _, drop_row nrow_len hx, by rw [nrow]; simp, ?_⟩
   generalize ops[i] = op at *
   simp only [tt, seval, h10, nrow]
   by_cases o1 : op = 1
   ·have d1 : decide ((op : Int) = 1) = true := decide_eq_true (by omega)
    simp only [tt, seval, h10, d1]
    have hk : opHit L s op = isT L s 0 (1 : Nat) (opT op) := by
     unfold opHit
     first | rw [if_pos (by omega)] | rw [if_neg (by omega)]
     rfl
    rw [hk] at hin
    refine call0 (iOpText_d op) ?_ ?_ ?_
    ·decide
    ·simp only [tt, seval, h10]
    rintro r rfl
    simp only [tt, seval, h10]
    refine CallQ.intro (pis_d L hL hT s 0 1 (opT op) (by omega) ha) ?_ ?_ ?_
    ·decide
    ·simp only [tt, seval, PB, h10]
    rintro r os ⟨rfl, rfl⟩ hos
    simp only [tt, seval, PB, h10]
    cases c : isT L s 0 (1 : Nat) (opT op) with
    | true =>
     rw [if_pos c] at hin
     have hlt2 := (isT_lt c).2
     rw [← hin]
     have h0 : decide (op ≠ 0) = true := decide_eq_true (by omega)
     simp only [tt, seval, h10]
     rw [wrap_id (n := (s.a : Int) + 1) (by omega) (by omega)]
     refine ⟨vi op, [PB L (adv s)], ⟨rfl, by rw [h0]; rfl⟩, endOk ?_⟩
     simp only [tt, seval, PB, adv]
     omega
    | false =>
     rw [if_neg (by rw [c]; simp)] at hin
     simp only [tt, seval, h10, Bool.false_eq_true]
     rw [wrS i (by omega)]
     exact ⟨[(9000, .str (PB L s))], none, SubO.cons rfl (SubO.nil _), PoSub.none _, ⟨i + 1, rfl, by omega, hin, rfl, rfl⟩, by simp only [ixS]; omega⟩
   ·have d1 : decide ((op : Int) = 1) = false := decide_eq_false (by omega)
    by_cases o2 : op = 2
    ·have d2 : decide ((op : Int) = 2) = true := decide_eq_true (by omega)
     simp only [tt, seval, h10, d1, d2]
     have hk : opHit L s op = isT L s 0 (1 : Nat) (opT op) := by
      unfold opHit
      first | rw [if_pos (by omega)] | rw [if_neg (by omega)]
      rfl
     rw [hk] at hin
     refine call0 (iOpText_d op) ?_ ?_ ?_
     ·decide
     ·simp only [tt, seval, h10]
     rintro r rfl
     simp only [tt, seval, h10]
     refine CallQ.intro (pis_d L hL hT s 0 1 (opT op) (by omega) ha) ?_ ?_ ?_
     ·decide
     ·simp only [tt, seval, PB, h10]
     rintro r os ⟨rfl, rfl⟩ hos
     simp only [tt, seval, PB, h10]
     cases c : isT L s 0 (1 : Nat) (opT op) with
     | true =>
      rw [if_pos c] at hin
      have hlt2 := (isT_lt c).2
      rw [← hin]
      have h0 : decide (op ≠ 0) = true := decide_eq_true (by omega)
      simp only [tt, seval, h10]
      rw [wrap_id (n := (s.a : Int) + 1) (by omega) (by omega)]
      refine ⟨vi op, [PB L (adv s)], ⟨rfl, by rw [h0]; rfl⟩, endOk ?_⟩
      simp only [tt, seval, PB, adv]
      omega
     | false =>
      rw [if_neg (by rw [c]; simp)] at hin
      simp only [tt, seval, h10, Bool.false_eq_true]
      rw [wrS i (by omega)]
      exact ⟨[(9000, .str (PB L s))], none, SubO.cons rfl (SubO.nil _), PoSub.none _, ⟨i + 1, rfl, by omega, hin, rfl, rfl⟩, by simp only [ixS]; omega⟩
    ·have d2 : decide ((op : Int) = 2) = false := decide_eq_false (by omega)
     simp only [tt, seval, h10, d1, d2]
     have hk : opHit L s op = isT L s 0 (5 : Nat) (opT op) := by
      unfold opHit
      first | rw [if_pos (by omega)] | rw [if_neg (by omega)]
      rfl
     rw [hk] at hin
     refine call0 (iOpText_d op) ?_ ?_ ?_
     ·decide
     ·simp only [tt, seval, h10]
     rintro r rfl
     simp only [tt, seval, h10]
     refine CallQ.intro (pis_d L hL hT s 0 5 (opT op) (by omega) ha) ?_ ?_ ?_
     ·decide
     ·simp only [tt, seval, PB, h10]
     rintro r os ⟨rfl, rfl⟩ hos
     simp only [tt, seval, PB, h10]
     cases c : isT L s 0 (5 : Nat) (opT op) with
     | true =>
      rw [if_pos c] at hin
      have hlt2 := (isT_lt c).2
      rw [← hin]
      have h0 : decide (op ≠ 0) = true := decide_eq_true (by omega)
      simp only [tt, seval, h10]
      rw [wrap_id (n := (s.a : Int) + 1) (by omega) (by omega)]
      refine ⟨vi op, [PB L (adv s)], ⟨rfl, by rw [h0]; rfl⟩, endOk ?_⟩
      simp only [tt, seval, PB, adv]
      omega
     | false =>
      rw [if_neg (by rw [c]; simp)] at hin
      simp only [tt, seval, h10, Bool.false_eq_true]
      rw [wrS i (by omega)]
      exact ⟨[(9000, .str (PB L s))], none, SubO.cons rfl (SubO.nil _), PoSub.none _, ⟨i + 1, rfl, by omega, hin, rfl, rfl⟩, by simp only [ixS]; omega⟩
  ·have : i = ops.length := by omega
   subst this
   rw [List.drop_length] at hin
   have h0 : opIn L s ops = 0 := hin.symm
   rw [h0]
   simp only [tt, seval, h10]
   exact ⟨_, [PB L s], ⟨rfl, rfl⟩, endOk (by simp only [tt, seval, PB])⟩
end Go.Proofs.YteffjmaadkkmeaaGreatDoor
set_option maxRecDepth 8000
namespace Go.Proofs.YteffjmaadkkmeaaGreatDoor
open Go Go.Dv Go.Cv
open Go.Vc (D shrI xorI andI and255)
theorem pbin_d (op : Nat) (a b : Expr) (Ak As Bk Bs : List (List Nat)) : ClT Tryz.prog 159 [vi op, .ag (told a.row [Ak, As]), .ag (told b.row [Bk, Bs])] [] (Ak ++ (As ++ (Bk ++ Bs))).flatten fun r os => os = [] ∧ ∃ Hk Hs, r = .ag (told (mBin op a b).row [Hk, Hs]) := by
 obtain ⟨k1, p1, n1, v1, q1, m1, ks1, ss1⟩ := a
 obtain ⟨k2, p2, n2, v2, q2, m2, ks2, ss2⟩ := b
 simp only [Expr.row_mk, told, Val.row, lcC]
 refine clT_of_d follows_mixed (some (Ak ++ (As ++ (Bk ++ Bs)))) _ (fun ps h => by injection h with h; subst h; first | rfl | simp) Tryz.func159 rfl (by kernel_rfl) ?_
 simp only [Tryz.f159, tt, seval]
 refine fun G => ⟨_, [], ⟨rfl, G :: (Ak ++ (As ++ (Bk ++ Bs))), [], rfl⟩, endOk ?_⟩
 simp only [tt, seval, rW, told, Val.row, lcC]
 first | done | exact pool_ok fun x => by simp only [fbC]; omega | exact ⟨by omega, Sb.refl _⟩ | exact ⟨by omega, pool_ok fun x => by simp only [fbC]; omega⟩
def TpE (L : List Tok) (fn : FuncId) (m : PM Expr) : Prop := ∀ s e s', m s = some (e, s') → s.a ≤ L.length → Cl Tryz.prog fn [.c (.p 9000 0)] [PB L s] fun r os => (∃ Fk Fs, r = .ag (told (e).row [Fk, Fs])) ∧ os = [PB L s']
set_option maxHeartbeats 2000000 in
theorem pchain_step (L : List Tok) (hL : L.length ≤ 1048576) (hT : ∀ t ∈ L, t.text.size ≤ 1048576) {f : PM Expr} (okf : OkM (L := L) f) (g : FuncId) (hg : TpE L g f) (lv : Nat) (hn : (opsL lv).length ≤ 100) (ho : ∀ op ∈ opsL lv, 1 ≤ op ∧ op ≤ 100) (s : PS) (x : Expr) (s' : PS) (h : (match f s with | none => none | some (e, s1) => chainM L f lv (L.length + 1) e s1) = some (x, s')) (ha : s.a ≤ L.length) : Cl Tryz.prog 92 [.c (.p 9000 0), .c (.fn g [9000] []), .c (.sl (opsL lv).length ((opsL lv).flatMap nrow) none)] [PB L s] fun r os => (∃ Fk Fs, r = .ag (told (x).row [Fk, Fs])) ∧ os = [PB L s'] := by
 split at h
 ·cases h
 rename_i e s1 he
 have ha1 := (okf _ _ _ he).2.1 ha
 have c1 := hg _ _ _ he ha
 obtain ⟨k1, p1, n1, v1, q1, m1, ks1, ss1⟩ := e
 rw [Expr.row_mk] at c1
 refine cl_of_d follows_mixed true Tryz.func92 rfl (by kernel_rfl) ?_
 simp only [Tryz.f92, tt, seval]
 refine CallQ.intro (c1) ?_ ?_ ?_
 ·decide
 ·simp only [tt, seval, PB, told, Val.row, lcC]
 rintro r os ⟨⟨Fk, Fs, rfl⟩, rfl⟩ hos
 simp only [tt, seval, PB, told, Val.row, lcC]
 refine dLoop.gh [] ?_
 refine dLoop0.intro (fun f' Lo p => ∃ (e : Expr) (v : PS) (n : Nat) (Ek Es : List (List Nat)), chainM L f lv n e v = some (x, s') ∧ v.a ≤ L.length ∧ Lo = [(9000, .str (PB L v)), (7, .str (told (e).row [Ek, Es])), (6, .str [.v (.int .i64 0), .v (.int .i64 0), .v (.bool false), .v (.int .i64 0), .v (.int .i64 0), .v (.string ByteArray.empty), .v (.string ByteArray.empty), .v (.string ByteArray.empty), .v (.slice none 0 0), .v (.slice none 0 0)])] ∧ p = some (Ek ++ Es)) (fun _ Lo _ => L.length - atS Lo) [(9000, .str (PB L s1)), (7, .str (told ((Expr.mk k1 p1 n1 v1 q1 m1 ks1 ss1)).row [Fk, Fs])), (6, .str [.v (.int .i64 0), .v (.int .i64 0), .v (.bool false), .v (.int .i64 0), .v (.int .i64 0), .v (.string ByteArray.empty), .v (.string ByteArray.empty), .v (.string ByteArray.empty), .v (.slice none 0 0), .v (.slice none 0 0)])] (some (Fk ++ Fs)) ⟨by rw [Expr.row_mk]; exact SubO.cons rfl (SubO.cons rfl (SubO.cons rfl (SubO.nil _))), PoSub.refl _, ?_⟩ ?_
 ·simp only [tt, seval]
  exact ⟨(Expr.mk k1 p1 n1 v1 q1 m1 ks1 ss1), s1, L.length + 1, Fk, Fs, h, ha1, rfl, rfl⟩
 ·rintro g' Lo p ⟨e, v, n, Ek, Es, hm, hv, rfl, rfl⟩
  obtain ⟨k1, p1, n1, v1, q1, m1, ks1, ss1⟩ := e
  rw [Expr.row_mk]
  simp only [tt, seval, told, Val.row, lcC]
  refine CallQ.intro (ptakeOp_d L hL hT v (opsL lv) hn ho hv) ?_ ?_ ?_
  ·decide
  ·simp only [tt, seval, PB, told, Val.row, lcC]
  rintro r os ⟨rfl, rfl⟩ hos
  simp only [tt, seval, PB, told, Val.row, lcC]
  cases n with
  | zero => cases hm
  | succ n =>
  rw [chainM] at hm
  have hop0 : opIn L v (opsL lv) = opAt L v lv := rfl
  rw [hop0]
  by_cases hop : opAt L v lv = 0
  ·rw [if_pos hop] at hm
   injection hm with hm; injection hm with h1 h2; subst h1 h2
   have e0 : decide (((opAt L v lv : Nat) : Int) = 0) = true := decide_eq_true (by omega)
   have e1 : decide (¬ opAt L v lv = 0) = false := decide_eq_false (by omega)
   simp only [tt, seval, e0, e1, hop, tkF, told, Val.row, lcC]
   refine ⟨.ag (told ((Expr.mk k1 p1 n1 v1 q1 m1 ks1 ss1)).row [Ek, Es]), [PB L (v)], ⟨⟨Ek, Es, by first | rfl | simp only [rW, told, Val.row, lcC]⟩, rfl⟩, endOk ?_⟩
   simp only [tt, seval, rW, told, Val.row, lcC]
   first | done | exact pool_ok fun x => by simp only [fbC]; omega | exact ⟨by omega, Sb.refl _⟩ | exact ⟨by omega, pool_ok fun x => by simp only [fbC]; omega⟩
  ·rw [if_neg hop] at hm
   split at hm
   ·cases hm
   rename_i z u hz
   have hav := adv_le (L := L) (opAt_lt hop)
   have o3 := okf _ _ _ hz
   have o3a : v.a + 1 ≤ u.a := o3.1
   have hu := o3.2.1 hav
   have hlt := (opAt_lt hop).2
   obtain ⟨k2, p2, n2, v2, q2, m2, ks2, ss2⟩ := z
   have c2 := hg _ _ _ hz hav
   rw [Expr.row_mk] at c2
   have cb := fun Gk Gs => pbin_d (opAt L v lv) (Expr.mk k1 p1 n1 v1 q1 m1 ks1 ss1) (Expr.mk k2 p2 n2 v2 q2 m2 ks2 ss2) Ek Es Gk Gs
   simp only [Expr.row_mk, told, Val.row, lcC] at cb
   have e0 : decide (((opAt L v lv : Nat) : Int) = 0) = false := decide_eq_false (by omega)
   have e0' : (((opAt L v lv : Nat) : Int) = 0) = False := eq_false (by omega)
   have e1 : decide (¬ opAt L v lv = 0) = true := decide_eq_true (by omega)
   simp only [tt, seval, e0, e0', e1, tkT, told, Val.row, lcC]
   refine dDrawn.intro [20] (.take 0 (.take 2 (.br 1 (.br 3 (.br 4 (.br 5 .done .nobr) .nobr) .nobr) (.br 3 (.take 1 (.br 4 (.br 5 .done .nobr) .nobr)) .nobr)))) (by kernel_rfl) ?_
   simp only [tt, seval]
   all_goals repeat' first | refine brC ?_ ?_ | refine brC2 ?_ ?_
   all_goals
    refine CallQ.intro (c2) ?_ ?_ ?_
    ·decide
    ·simp only [tt, seval, PB, told, Val.row, lcC]
     try decide
    rintro r os ⟨⟨Gk, Gs, rfl⟩, rfl⟩ hos
    simp only [tt, seval, PB, told, Val.row, lcC]
   all_goals repeat' first | refine brC ?_ ?_ | refine brC2 ?_ ?_
   all_goals
    refine callT ([]) (cb Gk Gs) ?_ ?_ ?_ ?_
    ·decide
    ·simp only [tt, seval, PB, mBin, Expr.row_mk, told, Val.row, lcC]
     try decide
    ·exact fun x => by simp only [fbC]; omega
    rintro r os ⟨rfl, Hk, Hs, rfl⟩ hos
    simp only [tt, seval, PB, mBin, Expr.row_mk, told, Val.row, lcC]
   all_goals
    refine ⟨[(9000, .str (PB L u)), (7, .str (told ((mBin (opAt L v lv) (Expr.mk k1 p1 n1 v1 q1 m1 ks1 ss1) (Expr.mk k2 p2 n2 v2 q2 m2 ks2 ss2))).row [Hk, Hs])), (6, .str [.v (.int .i64 0), .v (.int .i64 0), .v (.bool false), .v (.int .i64 0), .v (.int .i64 0), .v (.string ByteArray.empty), .v (.string ByteArray.empty), .v (.string ByteArray.empty), .v (.slice none 0 0), .v (.slice none 0 0)])], some (Hk ++ Hs), by simp only [rW, told, Val.row, lcC]; exact SubO.cons rfl (SubO.cons rfl (SubO.cons rfl (SubO.nil _))), PoSub.refl _, ⟨_, u, n, Hk, Hs, hm, hu, rfl, rfl⟩, ?_⟩
    show L.length - ((u.a : Int)).toNat < L.length - ((v.a : Int)).toNat
    omega
theorem ops1 : opsL 1 = [1] := rfl
theorem ops2 : opsL 2 = [2] := rfl
theorem ops4 : opsL 4 = [3, 4, 5, 6, 7, 8] := rfl
theorem ops5 : opsL 5 = [9] := rfl
theorem ops6 : opsL 6 = [10, 11] := rfl
theorem ops7 : opsL 7 = [12, 13, 14] := rfl
set_option maxHeartbeats 1000000 in
theorem por_step (L : List Tok) (hL : L.length ≤ 1048576) (hT : ∀ t ∈ L, t.text.size ≤ 1048576) {f : Nat → PM Expr} {q : PM Query} (ok : OkM (L := L) (f 2)) (hg : TpE L 93 (f 2)) : TpE L 42 (stepE L f q 1) := by
 intro s x s' h ha
 have h : (match f 2 s with | none => none | some (e, s1) => chainM L (f 2) 1 (L.length + 1) e s1) = some (x, s') := h
 have c1 := pchain_step L hL hT ok 93 hg 1 (by decide) (by decide) s x s' h ha
 obtain ⟨k1, p1, n1, v1, q1, m1, ks1, ss1⟩ := x
 rw [Expr.row_mk] at c1
 simp only [ops1] at c1
 refine cl_of_d follows_mixed true Tryz.func42 rfl (by kernel_rfl) ?_
 simp only [Tryz.f42, tt, seval]
 refine callF [6] ?_
 simp only [tt, seval, PB, nrow, List.flatMap_cons, List.flatMap_nil, List.length_cons, List.length_nil, told, Val.row, lcC]
 refine fun G => ?_
 refine Call1.intro (c1) ?_ ?_ ?_
 ·decide
 ·simp only [tt, seval, PB, nrow, List.flatMap_cons, List.flatMap_nil, List.length_cons, List.length_nil, told, Val.row, lcC]
 rintro r os ⟨⟨Fk, Fs, rfl⟩, rfl⟩ hos
 simp only [tt, seval, PB, nrow, List.flatMap_cons, List.flatMap_nil, List.length_cons, List.length_nil, told, Val.row, lcC]
 refine ⟨.ag (told ((Expr.mk k1 p1 n1 v1 q1 m1 ks1 ss1)).row [Fk, Fs]), [PB L (s')], ⟨⟨Fk, Fs, by first | rfl | simp only [rW, told, Val.row, lcC]⟩, rfl⟩, endOk ?_⟩
 simp only [tt, seval, rW, told, Val.row, lcC]
 first | done | exact pool_ok fun x => by simp only [fbC]; omega | exact ⟨by omega, Sb.refl _⟩ | exact ⟨by omega, pool_ok fun x => by simp only [fbC]; omega⟩
set_option maxHeartbeats 1000000 in
theorem pand_step (L : List Tok) (hL : L.length ≤ 1048576) (hT : ∀ t ∈ L, t.text.size ≤ 1048576) {f : Nat → PM Expr} {q : PM Query} (ok : OkM (L := L) (f 3)) (hg : TpE L 160 (f 3)) : TpE L 93 (stepE L f q 2) := by
 intro s x s' h ha
 have h : (match f 3 s with | none => none | some (e, s1) => chainM L (f 3) 2 (L.length + 1) e s1) = some (x, s') := h
 have c1 := pchain_step L hL hT ok 160 hg 2 (by decide) (by decide) s x s' h ha
 obtain ⟨k1, p1, n1, v1, q1, m1, ks1, ss1⟩ := x
 rw [Expr.row_mk] at c1
 simp only [ops2] at c1
 refine cl_of_d follows_mixed true Tryz.func93 rfl (by kernel_rfl) ?_
 simp only [Tryz.f93, tt, seval]
 refine callF [6] ?_
 simp only [tt, seval, PB, nrow, List.flatMap_cons, List.flatMap_nil, List.length_cons, List.length_nil, told, Val.row, lcC]
 refine fun G => ?_
 refine Call1.intro (c1) ?_ ?_ ?_
 ·decide
 ·simp only [tt, seval, PB, nrow, List.flatMap_cons, List.flatMap_nil, List.length_cons, List.length_nil, told, Val.row, lcC]
 rintro r os ⟨⟨Fk, Fs, rfl⟩, rfl⟩ hos
 simp only [tt, seval, PB, nrow, List.flatMap_cons, List.flatMap_nil, List.length_cons, List.length_nil, told, Val.row, lcC]
 refine ⟨.ag (told ((Expr.mk k1 p1 n1 v1 q1 m1 ks1 ss1)).row [Fk, Fs]), [PB L (s')], ⟨⟨Fk, Fs, by first | rfl | simp only [rW, told, Val.row, lcC]⟩, rfl⟩, endOk ?_⟩
 simp only [tt, seval, rW, told, Val.row, lcC]
 first | done | exact pool_ok fun x => by simp only [fbC]; omega | exact ⟨by omega, Sb.refl _⟩ | exact ⟨by omega, pool_ok fun x => by simp only [fbC]; omega⟩
set_option maxHeartbeats 1000000 in
theorem pcat_step (L : List Tok) (hL : L.length ≤ 1048576) (hT : ∀ t ∈ L, t.text.size ≤ 1048576) {f : Nat → PM Expr} {q : PM Query} (ok : OkM (L := L) (f 6)) (hg : TpE L 303 (f 6)) : TpE L 266 (stepE L f q 5) := by
 intro s x s' h ha
 have h : (match f 6 s with | none => none | some (e, s1) => chainM L (f 6) 5 (L.length + 1) e s1) = some (x, s') := h
 have c1 := pchain_step L hL hT ok 303 hg 5 (by decide) (by decide) s x s' h ha
 obtain ⟨k1, p1, n1, v1, q1, m1, ks1, ss1⟩ := x
 rw [Expr.row_mk] at c1
 simp only [ops5] at c1
 refine cl_of_d follows_mixed true Tryz.func266 rfl (by kernel_rfl) ?_
 simp only [Tryz.f266, tt, seval]
 refine callF [6] ?_
 simp only [tt, seval, PB, nrow, List.flatMap_cons, List.flatMap_nil, List.length_cons, List.length_nil, told, Val.row, lcC]
 refine fun G => ?_
 refine Call1.intro (c1) ?_ ?_ ?_
 ·decide
 ·simp only [tt, seval, PB, nrow, List.flatMap_cons, List.flatMap_nil, List.length_cons, List.length_nil, told, Val.row, lcC]
 rintro r os ⟨⟨Fk, Fs, rfl⟩, rfl⟩ hos
 simp only [tt, seval, PB, nrow, List.flatMap_cons, List.flatMap_nil, List.length_cons, List.length_nil, told, Val.row, lcC]
 refine ⟨.ag (told ((Expr.mk k1 p1 n1 v1 q1 m1 ks1 ss1)).row [Fk, Fs]), [PB L (s')], ⟨⟨Fk, Fs, by first | rfl | simp only [rW, told, Val.row, lcC]⟩, rfl⟩, endOk ?_⟩
 simp only [tt, seval, rW, told, Val.row, lcC]
 first | done | exact pool_ok fun x => by simp only [fbC]; omega | exact ⟨by omega, Sb.refl _⟩ | exact ⟨by omega, pool_ok fun x => by simp only [fbC]; omega⟩
set_option maxHeartbeats 1000000 in
theorem psum_step (L : List Tok) (hL : L.length ≤ 1048576) (hT : ∀ t ∈ L, t.text.size ≤ 1048576) {f : Nat → PM Expr} {q : PM Query} (ok : OkM (L := L) (f 7)) (hg : TpE L 325 (f 7)) : TpE L 303 (stepE L f q 6) := by
 intro s x s' h ha
 have h : (match f 7 s with | none => none | some (e, s1) => chainM L (f 7) 6 (L.length + 1) e s1) = some (x, s') := h
 have c1 := pchain_step L hL hT ok 325 hg 6 (by decide) (by decide) s x s' h ha
 obtain ⟨k1, p1, n1, v1, q1, m1, ks1, ss1⟩ := x
 rw [Expr.row_mk] at c1
 simp only [ops6] at c1
 refine cl_of_d follows_mixed true Tryz.func303 rfl (by kernel_rfl) ?_
 simp only [Tryz.f303, tt, seval]
 refine callF [6] ?_
 simp only [tt, seval, PB, nrow, List.flatMap_cons, List.flatMap_nil, List.length_cons, List.length_nil, told, Val.row, lcC]
 refine fun G => ?_
 refine Call1.intro (c1) ?_ ?_ ?_
 ·decide
 ·simp only [tt, seval, PB, nrow, List.flatMap_cons, List.flatMap_nil, List.length_cons, List.length_nil, told, Val.row, lcC]
 rintro r os ⟨⟨Fk, Fs, rfl⟩, rfl⟩ hos
 simp only [tt, seval, PB, nrow, List.flatMap_cons, List.flatMap_nil, List.length_cons, List.length_nil, told, Val.row, lcC]
 refine ⟨.ag (told ((Expr.mk k1 p1 n1 v1 q1 m1 ks1 ss1)).row [Fk, Fs]), [PB L (s')], ⟨⟨Fk, Fs, by first | rfl | simp only [rW, told, Val.row, lcC]⟩, rfl⟩, endOk ?_⟩
 simp only [tt, seval, rW, told, Val.row, lcC]
 first | done | exact pool_ok fun x => by simp only [fbC]; omega | exact ⟨by omega, Sb.refl _⟩ | exact ⟨by omega, pool_ok fun x => by simp only [fbC]; omega⟩
set_option maxHeartbeats 1000000 in
theorem pprod_step (L : List Tok) (hL : L.length ≤ 1048576) (hT : ∀ t ∈ L, t.text.size ≤ 1048576) {f : Nat → PM Expr} {q : PM Query} (ok : OkM (L := L) (f 8)) (hg : TpE L 337 (f 8)) : TpE L 325 (stepE L f q 7) := by
 intro s x s' h ha
 have h : (match f 8 s with | none => none | some (e, s1) => chainM L (f 8) 7 (L.length + 1) e s1) = some (x, s') := h
 have c1 := pchain_step L hL hT ok 337 hg 7 (by decide) (by decide) s x s' h ha
 obtain ⟨k1, p1, n1, v1, q1, m1, ks1, ss1⟩ := x
 rw [Expr.row_mk] at c1
 simp only [ops7] at c1
 refine cl_of_d follows_mixed true Tryz.func325 rfl (by kernel_rfl) ?_
 simp only [Tryz.f325, tt, seval]
 refine callF [6] ?_
 simp only [tt, seval, PB, nrow, List.flatMap_cons, List.flatMap_nil, List.length_cons, List.length_nil, told, Val.row, lcC]
 refine fun G => ?_
 refine Call1.intro (c1) ?_ ?_ ?_
 ·decide
 ·simp only [tt, seval, PB, nrow, List.flatMap_cons, List.flatMap_nil, List.length_cons, List.length_nil, told, Val.row, lcC]
 rintro r os ⟨⟨Fk, Fs, rfl⟩, rfl⟩ hos
 simp only [tt, seval, PB, nrow, List.flatMap_cons, List.flatMap_nil, List.length_cons, List.length_nil, told, Val.row, lcC]
 refine ⟨.ag (told ((Expr.mk k1 p1 n1 v1 q1 m1 ks1 ss1)).row [Fk, Fs]), [PB L (s')], ⟨⟨Fk, Fs, by first | rfl | simp only [rW, told, Val.row, lcC]⟩, rfl⟩, endOk ?_⟩
 simp only [tt, seval, rW, told, Val.row, lcC]
 first | done | exact pool_ok fun x => by simp only [fbC]; omega | exact ⟨by omega, Sb.refl _⟩ | exact ⟨by omega, pool_ok fun x => by simp only [fbC]; omega⟩
set_option maxHeartbeats 1000000 in
theorem pnot_step (L : List Tok) (hL : L.length ≤ 1048576) (hT : ∀ t ∈ L, t.text.size ≤ 1048576) {f : Nat → PM Expr} {q : PM Query} (hs : TpE L 160 (f 3)) (hg : TpE L 223 (f 4)) : TpE L 160 (stepE L f q 3) := by
 intro s x s' h ha
 have h : (if isKey L s 15 = true then (match f 3 (adv s) with | none => none | some (e, s1) => some (mUn 15 e, s1)) else f 4 s) = some (x, s') := h
 refine cl_of_d follows_mixed true Tryz.func160 rfl (by kernel_rfl) ?_
 simp only [Tryz.f160, tt, seval]
 refine CallQ.intro (ptakeKey_d L hL hT s 15 ⟨#[78, 79, 84]⟩ (by kernel_rfl) ha) ?_ ?_ ?_
 ·decide
 ·simp only [tt, seval, PB]
 rintro r os ⟨rfl, rfl⟩ hos
 simp only [tt, seval, PB]
 cases c : isKey L s 15 with
 | true =>
  rw [if_pos c] at h
  split at h
  ·cases h
  rename_i e s1 he
  injection h with h; injection h with h1 h2; subst h1 h2
  obtain ⟨k1, p1, n1, v1, q1, m1, ks1, ss1⟩ := e
  have c1 := hs _ _ _ he (adv_le (isKey_lt c))
  rw [Expr.row_mk] at c1
  simp only [tt, seval, tkT, tkF, muT, muF]
  refine CallQ.intro (c1) ?_ ?_ ?_
  ·decide
  ·simp only [tt, seval, PB, told, Val.row, lcC]
  rintro r os ⟨⟨Fk, Fs, rfl⟩, rfl⟩ hos
  simp only [tt, seval, PB, told, Val.row, lcC]
  refine fun G => ?_
  refine ⟨.ag (told (mUn 15 (Expr.mk k1 p1 n1 v1 q1 m1 ks1 ss1)).row [G :: (Fk ++ Fs), []]), [PB L s1], ⟨⟨_, _, rfl⟩, rfl⟩, endOk ?_⟩
  simp only [tt, seval, rW, told, Val.row, lcC]
  first | done | exact pool_ok fun x => by simp only [fbC]; omega | exact ⟨by omega, Sb.refl _⟩ | exact ⟨by omega, pool_ok fun x => by simp only [fbC]; omega⟩
 | false =>
  rw [if_neg (by rw [c]; simp)] at h
  obtain ⟨k1, p1, n1, v1, q1, m1, ks1, ss1⟩ := x
  have c1 := hg _ _ _ h ha
  rw [Expr.row_mk] at c1
  simp only [tt, seval, tkT, tkF, muT, muF, Bool.false_eq_true]
  refine CallQ.intro (c1) ?_ ?_ ?_
  ·decide
  ·simp only [tt, seval, PB, told, Val.row, lcC]
  rintro r os ⟨⟨Fk, Fs, rfl⟩, rfl⟩ hos
  simp only [tt, seval, PB, told, Val.row, lcC]
  refine ⟨.ag (told ((Expr.mk k1 p1 n1 v1 q1 m1 ks1 ss1)).row [Fk, Fs]), [PB L (s')], ⟨⟨Fk, Fs, by first | rfl | simp only [rW, told, Val.row, lcC]⟩, rfl⟩, endOk ?_⟩
  simp only [tt, seval, rW, told, Val.row, lcC]
  first | done | exact pool_ok fun x => by simp only [fbC]; omega | exact ⟨by omega, Sb.refl _⟩ | exact ⟨by omega, pool_ok fun x => by simp only [fbC]; omega⟩
set_option maxHeartbeats 1000000 in
theorem pneg_step (L : List Tok) (hL : L.length ≤ 1048576) (hT : ∀ t ∈ L, t.text.size ≤ 1048576) {f : Nat → PM Expr} {q : PM Query} (hs : TpE L 337 (f 8)) (hg : TpE L 348 (f 9)) : TpE L 337 (stepE L f q 8) := by
 intro s x s' h ha
 have h : (if isSg L s 45 = true then (match f 8 (adv s) with | none => none | some (e, s1) => some (mUn 16 e, s1)) else f 9 s) = some (x, s') := h
 refine cl_of_d follows_mixed true Tryz.func337 rfl (by kernel_rfl) ?_
 simp only [Tryz.f337, tt, seval]
 refine CallQ.intro (ptakeSign_d L hL hT s 45 ha) ?_ ?_ ?_
 ·decide
 ·simp only [tt, seval, PB]
 rintro r os ⟨rfl, rfl⟩ hos
 simp only [tt, seval, PB]
 cases c : isSg L s 45 with
 | true =>
  rw [if_pos c] at h
  split at h
  ·cases h
  rename_i e s1 he
  injection h with h; injection h with h1 h2; subst h1 h2
  obtain ⟨k1, p1, n1, v1, q1, m1, ks1, ss1⟩ := e
  have c1 := hs _ _ _ he (adv_le (isSg_lt c))
  rw [Expr.row_mk] at c1
  simp only [tt, seval, tkT, tkF, muT, muF]
  refine CallQ.intro (c1) ?_ ?_ ?_
  ·decide
  ·simp only [tt, seval, PB, told, Val.row, lcC]
  rintro r os ⟨⟨Fk, Fs, rfl⟩, rfl⟩ hos
  simp only [tt, seval, PB, told, Val.row, lcC]
  refine fun G => ?_
  refine ⟨.ag (told (mUn 16 (Expr.mk k1 p1 n1 v1 q1 m1 ks1 ss1)).row [G :: (Fk ++ Fs), []]), [PB L s1], ⟨⟨_, _, rfl⟩, rfl⟩, endOk ?_⟩
  simp only [tt, seval, rW, told, Val.row, lcC]
  first | done | exact pool_ok fun x => by simp only [fbC]; omega | exact ⟨by omega, Sb.refl _⟩ | exact ⟨by omega, pool_ok fun x => by simp only [fbC]; omega⟩
 | false =>
  rw [if_neg (by rw [c]; simp)] at h
  obtain ⟨k1, p1, n1, v1, q1, m1, ks1, ss1⟩ := x
  have c1 := hg _ _ _ h ha
  rw [Expr.row_mk] at c1
  simp only [tt, seval, tkT, tkF, muT, muF, Bool.false_eq_true]
  refine CallQ.intro (c1) ?_ ?_ ?_
  ·decide
  ·simp only [tt, seval, PB, told, Val.row, lcC]
  rintro r os ⟨⟨Fk, Fs, rfl⟩, rfl⟩ hos
  simp only [tt, seval, PB, told, Val.row, lcC]
  refine ⟨.ag (told ((Expr.mk k1 p1 n1 v1 q1 m1 ks1 ss1)).row [Fk, Fs]), [PB L (s')], ⟨⟨Fk, Fs, by first | rfl | simp only [rW, told, Val.row, lcC]⟩, rfl⟩, endOk ?_⟩
  simp only [tt, seval, rW, told, Val.row, lcC]
  first | done | exact pool_ok fun x => by simp only [fbC]; omega | exact ⟨by omega, Sb.refl _⟩ | exact ⟨by omega, pool_ok fun x => by simp only [fbC]; omega⟩
def TpQ (L : List Tok) (fn : FuncId) (m : PM Query) : Prop := ∀ s e s', m s = some (e, s') → s.a ≤ L.length → Cl Tryz.prog fn [.c (.p 9000 0)] [PB L s] fun r os => (∃ Fi Ff Fw Fo, r = .ag (told (e).row [Fi, Ff, Fw, Fo])) ∧ os = [PB L s']
theorem plit_d (v : Val) : Cl Tryz.prog 356 [.ag (csOf v.row)] [] fun r _ => r = .ag (told (mLit v).row [[], []]) := by
 refine cl_of_d follows_mixed false Tryz.func356 rfl (by kernel_rfl) ?_
 simp only [Tryz.f356, tt, seval]
 simp only [tt, seval, Val.row]
 refine ⟨.ag (told (mLit v).row [[], []]), [], rfl, endOk ?_⟩
 simp only [tt, seval, rW, told, Val.row, lcC]
set_option maxHeartbeats 2000000 in
theorem pors_step (L : List Tok) (hL : L.length ≤ 1048576) (hT : ∀ t ∈ L, t.text.size ≤ 1048576) {f : Nat → PM Expr} (ok : OkM (L := L) (f 1)) (hg : TpE L 42 (f 1)) (s : PS) (x : List Expr) (s' : PS) (h : orsM L f s = some (x, s')) (ha : s.a ≤ L.length) : Cl Tryz.prog 172 [.c (.p 9000 0)] [PB L s] fun r os => (x.length ≤ 1048580 ∧ ∃ F, r = .c (.ow 29 x.length (x.flatMap Expr.row) (some F))) ∧ os = [PB L s'] := by
 unfold orsM at h
 split at h
 ·cases h
 rename_i e s1 he
 have ha1 := (ok _ _ _ he).2.1 ha
 have c1 := hg _ _ _ he ha
 obtain ⟨k1, p1, n1, v1, q1, m1, ks1, ss1⟩ := e
 rw [Expr.row_mk] at c1
 refine cl_of_d follows_mixed true Tryz.func172 rfl (by kernel_rfl) ?_
 simp only [Tryz.f172, tt, seval]
 refine CallQ.intro (c1) ?_ ?_ ?_
 ·decide
 ·simp only [tt, seval, PB, told, Val.row, lcC]
 rintro r os ⟨⟨Fk, Fs, rfl⟩, rfl⟩ hos
 simp only [tt, seval, PB, told, Val.row, lcC]
 refine dLoop.gh [.ren 6 13] ⟨by decide, by decide, ?_⟩
 refine dLoop0.intro (fun f' Lo p => ∃ (l : List Expr) (v : PS) (n : Nat) (Fl Pl : List (List Nat)), f' 3 = .c (.s 13 l.length) ∧ sepM L (f 1) n l v = some (x, s') ∧ v.a ≤ L.length ∧ l.length ≤ v.a + 1 ∧ Sb Fl.flatten Pl.flatten ∧ Lo = [(9000, .str (PB L v)), (13, .arr 29 (l).length ((l).flatMap Expr.row) (some (Fl)))] ∧ p = some Pl) (fun _ Lo _ => L.length - atS Lo) [(9000, .str (PB L s1)), (13, .arr 29 ([(Expr.mk k1 p1 n1 v1 q1 m1 ks1 ss1)]).length (([(Expr.mk k1 p1 n1 v1 q1 m1 ks1 ss1)]).flatMap Expr.row) (some (Fk ++ Fs)))] (some (Fk ++ Fs)) ⟨by simp only [rW, Val.row]; exact SubO.cons rfl (SubO.cons rfl (SubO.nil _)), PoSub.refl _, ?_⟩ ?_
 ·simp only [tt, seval]
  exact ⟨[(Expr.mk k1 p1 n1 v1 q1 m1 ks1 ss1)], s1, L.length + 1, Fk ++ Fs, Fk ++ Fs, rfl, h, ha1, by simp, Sb.refl _, rfl, rfl⟩
 ·rintro g' Lo p ⟨l, v, n, Fl, Pl, h3, hm, hv, hml, hsb, rfl, rfl⟩
  simp only [tt, seval] at h3
  simp only [tt, seval, h3]
  refine CallQ.intro (ptakeSign_d L hL hT v 44 hv) ?_ ?_ ?_
  ·decide
  ·simp only [tt, seval, PB, h3]
  rintro r os ⟨rfl, rfl⟩ hos
  simp only [tt, seval, PB, h3]
  cases n with
  | zero => cases hm
  | succ n =>
  rw [sepM] at hm
  cases c44 : isSg L v 44 with
  | true =>
   rw [if_pos c44] at hm
   split at hm
   ·cases hm
   rename_i z u hz
   have hav := adv_le (L := L) (isSg_lt c44)
   have o3 := ok _ _ _ hz
   have o3a : v.a + 1 ≤ u.a := o3.1
   have hu := o3.2.1 hav
   have hlt := (isSg_lt c44).2
   obtain ⟨k2, p2, n2, v2, q2, m2, ks2, ss2⟩ := z
   have c2 := hg _ _ _ hz hav
   rw [Expr.row_mk] at c2
   simp only [tt, seval, tkT, tkF, muT, muF, h3]
   refine CallQ.intro (c2) ?_ ?_ ?_
   ·decide
   ·simp only [tt, seval, PB, h3, told, Val.row, lcC]
   rintro r os ⟨⟨Gk, Gs, rfl⟩, rfl⟩ hos
   simp only [tt, seval, PB, h3, told, Val.row, lcC]
   refine ⟨by kernel_rfl, ⟨by simp only [maxLen]; omega, by omega⟩, ?_⟩
   refine ⟨[(9000, .str (PB L u)), (13, .arr 29 ((l ++ [(Expr.mk k2 p2 n2 v2 q2 m2 ks2 ss2)])).length (((l ++ [(Expr.mk k2 p2 n2 v2 q2 m2 ks2 ss2)])).flatMap Expr.row) (some (Fl ++ (Gk ++ Gs))))], some (Pl ++ (Gk ++ Gs)), by simp only [rW, Val.row, List.flatMap_append, List.length_append]; exact SubO.cons rfl (SubO.cons rfl (SubO.nil _)), PoSub.refl _, ⟨l ++ [(Expr.mk k2 p2 n2 v2 q2 m2 ks2 ss2)], u, n, _, _, by simp, hm, hu, by simp; omega, by simp only [List.flatten_append]; exact hsb.append (Sb.refl _), rfl, rfl⟩, ?_⟩
   show L.length - ((u.a : Int)).toNat < L.length - ((v.a : Int)).toNat
   omega
  | false =>
   rw [if_neg (by rw [c44]; simp)] at hm
   injection hm with hm; injection hm with e1 e2; subst e1 e2
   simp only [tt, seval, tkT, tkF, muT, muF, Bool.false_eq_true, h3]
   refine ⟨.c (.ow 29 l.length (l.flatMap Expr.row) (some Fl)), [PB L v], ⟨⟨by omega, Fl, rfl⟩, rfl⟩, endOk ?_⟩
   simp only [tt, seval, PB]
   exact hsb
set_option maxHeartbeats 4000000 in
theorem pin_step (L : List Tok) (hL : L.length ≤ 1048576) (hT : ∀ t ∈ L, t.text.size ≤ 1048576) {f : Nat → PM Expr} {q : PM Query} (ok : ∀ lv, OkM (L := L) (f lv)) (okq : OkM (L := L) q) (hor : TpE L 42 (f 1)) (hq : TpQ L 54 q) (e : Expr) (not : Bool) (Ek Es : List (List Nat)) (s : PS) (x : Expr) (s' : PS) (h : inM L f q e not s = some (x, s')) (ha : s.a ≤ L.length) : ClT Tryz.prog 267 [.c (.p 9000 0), .ag (told e.row [Ek, Es]), vb not] [PB L s] (Ek ++ Es).flatten fun r os => (∃ Hk Hs, r = .ag (told x.row [Hk, Hs])) ∧ os = [PB L s'] := by
 obtain ⟨k1, p1, n1, v1, q1, m1, ks1, ss1⟩ := e
 unfold inM at h
 simp only at h
 simp only [Expr.row_mk, told, Val.row, lcC]
 refine clT_of_d follows_mixed (some (Ek ++ Es)) _ (fun ps h => by injection h with h; subst h; first | rfl | simp) Tryz.func267 rfl (by kernel_rfl) ?_
 simp only [Tryz.f267, tt, seval]
 refine CallQ.intro (pmustSign_d L hL hT s 40 ha) ?_ ?_ ?_
 ·decide
 ·simp only [tt, seval, PB]
 rintro r os ⟨rfl, rfl⟩ hos
 simp only [tt, seval, PB]
 have o1 : Ok L s (must (isSg L s 40) s) := Ok.must fun h => isSg_lt h
 have ha1 := o1.2.1 ha
 generalize must (isSg L s 40) s = u at *
 refine CallQ.intro (pisKey_d L hL hT u 1 ⟨#[83, 69, 76, 69, 67, 84]⟩ (by kernel_rfl) ha1) ?_ ?_ ?_
 ·decide
 ·simp only [tt, seval, PB]
 rintro r os ⟨rfl, rfl⟩ hos
 simp only [tt, seval, PB]
 cases c1 : isKey L u 1 with
 | true =>
  rw [if_pos c1] at h
  split at h
  ·cases h
  rename_i y t hy
  injection h with h; injection h with h1 h2; subst h1 h2
  have ht := (okq _ _ _ hy).2.1 ha1
  obtain ⟨d, its, frs, whs, ods, lim⟩ := y
  have cq := hq _ _ _ hy ha1
  rw [Query.row_mk] at cq
  simp only [tt, seval]
  refine CallQ.intro (cq) ?_ ?_ ?_
  ·decide
  ·simp only [tt, seval, PB, told, lcC]
  rintro r os ⟨⟨Fi, Ff, Fw, Fo, rfl⟩, rfl⟩ hos
  simp only [tt, seval, PB, told, lcC]
  refine CallQ.intro (pmustSign_d L hL hT t 41 ht) ?_ ?_ ?_
  ·decide
  ·simp only [tt, seval, PB]
  rintro r os ⟨rfl, rfl⟩ hos
  simp only [tt, seval, PB]
  refine fun G0 => ?_
  refine fun G1 => ?_
  refine ⟨.ag (told (mKids 8 not [(Expr.mk k1 p1 n1 v1 q1 m1 ks1 ss1)] [(Query.mk d its frs whs ods lim)]).row [G0 :: (Ek ++ Es), G1 :: (Fi ++ (Ff ++ (Fw ++ Fo)))]), [PB L (must (isSg L t 41) t)], ⟨⟨_, _, rfl⟩, rfl⟩, endOk ?_⟩
  simp only [tt, seval, rW, told, Val.row, lcC]
  first | done | exact pool_ok fun x => by simp only [fbC]; omega | exact ⟨by omega, Sb.refl _⟩ | exact ⟨by omega, pool_ok fun x => by simp only [fbC]; omega⟩
 | false =>
  rw [if_neg (by rw [c1]; simp)] at h
  split at h
  ·cases h
  rename_i l t hl
  injection h with h; injection h with h1 h2; subst h1 h2
  have ht := (OkM.ors ok _ _ _ hl).2.1 ha1
  have cl := pors_step L hL hT (ok 1) hor _ _ _ hl ha1
  simp only [tt, seval, Bool.false_eq_true]
  refine dDrawn.intro [24] (.take 0 (.take 2 (.br 1 (.br 3 (.br 4 (.take 5 (.br 6 .done .nobr)) .nobr) .nobr) (.br 3 (.take 1 (.br 4 (.take 5 (.br 6 .done .nobr)) .nobr)) .nobr)))) (by kernel_rfl) ?_
  simp only [tt, seval]
  all_goals repeat' first | refine brC ?_ ?_ | refine brC2 ?_ ?_
  all_goals
   refine CallQ.intro (cl) ?_ ?_ ?_
   ·decide
   ·simp only [tt, seval, PB, told, Val.row, lcC]
    try decide
   rintro r os ⟨⟨hlen, Fl, rfl⟩, rfl⟩ hos
   simp only [tt, seval, PB, told, Val.row, lcC]
  all_goals repeat' first | refine brA ?_ ?_ | refine brA2 ?_ ?_ | refine brA3 ?_ ?_
  all_goals
   refine ⟨by kernel_rfl, flatMap_len Expr.row_len l, ⟨by simp only [maxLen]; omega, by omega⟩, ?_⟩
   try simp only [tt, seval]
  all_goals
   refine CallQ.intro (pmustSign_d L hL hT t 41 ht) ?_ ?_ ?_
   ·decide
   ·simp only [tt, seval, PB]
   rintro r os ⟨rfl, rfl⟩ hos
   simp only [tt, seval, PB]
   refine fun G0 => ?_
   refine ⟨.ag (told (mKids 7 not ((Expr.mk k1 p1 n1 v1 q1 m1 ks1 ss1) :: l) []).row [G0 :: (Ek ++ Es ++ Fl), []]), [PB L (must (isSg L t 41) t)], ⟨⟨_, _, rfl⟩, rfl⟩, endOk ?_⟩
   simp only [tt, seval, rW, told, Val.row, lcC]
   first | done | exact pool_ok fun x => by simp only [fbC]; omega | exact ⟨by omega, Sb.refl _⟩ | exact ⟨by omega, pool_ok fun x => by simp only [fbC]; omega⟩
theorem pIntValue_d (k : Int) : Cl Tryz.prog 357 [vi k] [] fun r _ => r = .ag (csOf (Val.mk 1 k z0).row) := by
 refine cl_of_d follows_mixed false Tryz.func357 rfl (by kernel_rfl) ?_
 simp only [Tryz.f357, tt, seval]
 refine ⟨.ag (csOf (Val.mk 1 k z0).row), [], rfl, endOk ?_⟩
 simp only [tt, seval, Val.row, z0, bae]
theorem pTextValue_d (s : ByteArray) : Cl Tryz.prog 358 [vs s] [] fun r _ => r = .ag (csOf (Val.mk 2 0 s).row) := by
 refine cl_of_d follows_mixed false Tryz.func358 rfl (by kernel_rfl) ?_
 simp only [Tryz.f358, tt, seval]
 refine ⟨.ag (csOf (Val.mk 2 0 s).row), [], rfl, endOk ?_⟩
 simp only [tt, seval, Val.row, z0, bae]
theorem pBoolValue_t : Cl Tryz.prog 359 [vb true] [] fun r _ => r = .ag (csOf (Val.mk 3 1 z0).row) := by
 refine cl_of_d follows_mixed false Tryz.func359 rfl (by kernel_rfl) ?_
 simp only [Tryz.f359, tt, seval]
 refine ⟨.ag (csOf (Val.mk 3 1 z0).row), [], rfl, endOk ?_⟩
 simp only [tt, seval, Val.row, z0, bae]
theorem pBoolValue_f : Cl Tryz.prog 359 [vb false] [] fun r _ => r = .ag (csOf (Val.mk 3 0 z0).row) := by
 refine cl_of_d follows_mixed false Tryz.func359 rfl (by kernel_rfl) ?_
 simp only [Tryz.f359, tt, seval]
 refine ⟨.ag (csOf (Val.mk 3 0 z0).row), [], rfl, endOk ?_⟩
 simp only [tt, seval, Val.row, z0, bae]
set_option maxHeartbeats 4000000 in
theorem pprim_step (L : List Tok) (hL : L.length ≤ 1048576) (hT : ∀ t ∈ L, t.text.size ≤ 1048576) {f : Nat → PM Expr} {q : PM Query} (ok1 : OkM (L := L) (f 1)) (okq : OkM (L := L) q) (hf : TpE L 42 (f 1)) (hq : TpQ L 54 q) : TpE L 348 (primM L f q) := by
 intro s e s' h ha
 have hts := text_small hL hT s
 unfold primM at h
 simp only at h
 refine cl_of_d follows_mixed true Tryz.func348 rfl (by kernel_rfl) ?_
 simp only [Tryz.f348, tt, seval]
 refine CallQ.intro (pisKind_d L hL hT s 3 ha) ?_ ?_ ?_
 ·decide
 ·simp only [tt, seval, PB]
 rintro r os ⟨rfl, rfl⟩ hos
 simp only [tt, seval, PB]
 cases c3 : isK L s 3 with
 | true =>
  rw [if_pos c3] at h
  injection h with h; injection h with h1 h2; subst h1 h2
  simp only [tt, seval]
  refine CallQ.intro (pmustNumber_d L hL hT s ha) ?_ ?_ ?_
  ·decide
  ·simp only [tt, seval, PB]
  rintro r os ⟨rfl, rfl⟩ hos
  simp only [tt, seval, PB]
  have hn : mNum L s = (numV (textAt L s), adv s) := by unfold mNum; rw [mt_yes c3]
  rw [hn]
  refine call0 (pIntValue_d (numV (textAt L s))) ?_ ?_ ?_
  ·decide
  ·simp only [tt, seval, Val.row]
  rintro r rfl
  simp only [tt, seval, Val.row]
  have cl := plit_d ⟨1, numV (textAt L s), z0⟩
  refine call0 (cl) ?_ ?_ ?_
  ·decide
  ·simp only [tt, seval, rW, told, Val.row, lcC]
  rintro r rfl
  simp only [tt, seval, rW, told, Val.row, lcC]
  refine ⟨.ag (told (mLit ⟨1, numV (textAt L s), z0⟩).row [[], []]), [PB L (adv s)], ⟨⟨[], [], rfl⟩, rfl⟩, endOk ?_⟩
  simp only [tt, seval, rW, told, Val.row, lcC]
  first | done | exact pool_ok fun x => by simp only [fbC]; omega | exact ⟨by omega, Sb.refl _⟩ | exact ⟨by omega, pool_ok fun x => by simp only [fbC]; omega⟩
 | false =>
 rw [if_neg (by rw [c3]; simp)] at h
 simp only [tt, seval]
 refine CallQ.intro (pisKind_d L hL hT s 4 ha) ?_ ?_ ?_
 ·decide
 ·simp only [tt, seval, PB]
 rintro r os ⟨rfl, rfl⟩ hos
 simp only [tt, seval, PB]
 cases c4 : isK L s 4 with
 | true =>
  rw [if_pos c4] at h
  injection h with h; injection h with h1 h2; subst h1 h2
  simp only [tt, seval]
  refine CallQ.intro (pmustKind_d L hL hT s 4 ha) ?_ ?_ ?_
  ·decide
  ·simp only [tt, seval, PB]
  rintro r os ⟨rfl, rfl⟩ hos
  simp only [tt, seval, PB]
  rw [mt_yes c4]
  refine call0 (pTextValue_d (textAt L s)) ?_ ?_ ?_
  ·decide
  ·simp only [tt, seval, Val.row]
  rintro r rfl
  simp only [tt, seval, Val.row]
  have cl := plit_d ⟨2, 0, textAt L s⟩
  refine call0 (cl) ?_ ?_ ?_
  ·decide
  ·simp only [tt, seval, rW, told, Val.row, lcC]
  rintro r rfl
  simp only [tt, seval, rW, told, Val.row, lcC]
  refine ⟨.ag (told (mLit ⟨2, 0, textAt L s⟩).row [[], []]), [PB L (adv s)], ⟨⟨[], [], rfl⟩, rfl⟩, endOk ?_⟩
  simp only [tt, seval, rW, told, Val.row, lcC]
  first | done | exact pool_ok fun x => by simp only [fbC]; omega | exact ⟨by omega, Sb.refl _⟩ | exact ⟨by omega, pool_ok fun x => by simp only [fbC]; omega⟩
 | false =>
 rw [if_neg (by rw [c4]; simp)] at h
 simp only [tt, seval]
 refine CallQ.intro (ptakeKey_d L hL hT s 20 ⟨#[78, 85, 76, 76]⟩ (by kernel_rfl) ha) ?_ ?_ ?_
 ·decide
 ·simp only [tt, seval, PB]
 rintro r os ⟨rfl, rfl⟩ hos
 simp only [tt, seval, PB]
 cases c20 : isKey L s 20 with
 | true =>
  rw [if_pos c20] at h
  injection h with h; injection h with h1 h2; subst h1 h2
  simp only [tt, seval, tkT, tkF, muT, muF]
  have cl := plit_d zVal
  refine call0 (cl) ?_ ?_ ?_
  ·decide
  ·simp only [tt, seval, rW, told, Val.row, lcC]
  rintro r rfl
  simp only [tt, seval, rW, told, Val.row, lcC]
  refine ⟨.ag (told (mLit zVal).row [[], []]), [PB L (adv s)], ⟨⟨[], [], rfl⟩, rfl⟩, endOk ?_⟩
  simp only [tt, seval, rW, told, Val.row, lcC]
  first | done | exact pool_ok fun x => by simp only [fbC]; omega | exact ⟨by omega, Sb.refl _⟩ | exact ⟨by omega, pool_ok fun x => by simp only [fbC]; omega⟩
 | false =>
 rw [if_neg (by rw [c20]; simp)] at h
 simp only [tt, seval, tkT, tkF, muT, muF, Bool.false_eq_true]
 refine CallQ.intro (ptakeKey_d L hL hT s 21 ⟨#[84, 82, 85, 69]⟩ (by kernel_rfl) ha) ?_ ?_ ?_
 ·decide
 ·simp only [tt, seval, PB]
 rintro r os ⟨rfl, rfl⟩ hos
 simp only [tt, seval, PB]
 cases c21 : isKey L s 21 with
 | true =>
  rw [if_pos c21] at h
  injection h with h; injection h with h1 h2; subst h1 h2
  simp only [tt, seval, tkT, tkF, muT, muF]
  refine call0 (pBoolValue_t) ?_ ?_ ?_
  ·decide
  ·simp only [tt, seval, Val.row]
  rintro r rfl
  simp only [tt, seval, Val.row]
  have cl := plit_d ⟨3, 1, z0⟩
  refine call0 (cl) ?_ ?_ ?_
  ·decide
  ·simp only [tt, seval, rW, told, Val.row, lcC]
  rintro r rfl
  simp only [tt, seval, rW, told, Val.row, lcC]
  refine ⟨.ag (told (mLit ⟨3, 1, z0⟩).row [[], []]), [PB L (adv s)], ⟨⟨[], [], rfl⟩, rfl⟩, endOk ?_⟩
  simp only [tt, seval, rW, told, Val.row, lcC]
  first | done | exact pool_ok fun x => by simp only [fbC]; omega | exact ⟨by omega, Sb.refl _⟩ | exact ⟨by omega, pool_ok fun x => by simp only [fbC]; omega⟩
 | false =>
 rw [if_neg (by rw [c21]; simp)] at h
 simp only [tt, seval, tkT, tkF, muT, muF, Bool.false_eq_true]
 refine CallQ.intro (ptakeKey_d L hL hT s 22 ⟨#[70, 65, 76, 83, 69]⟩ (by kernel_rfl) ha) ?_ ?_ ?_
 ·decide
 ·simp only [tt, seval, PB]
 rintro r os ⟨rfl, rfl⟩ hos
 simp only [tt, seval, PB]
 cases c22 : isKey L s 22 with
 | true =>
  rw [if_pos c22] at h
  injection h with h; injection h with h1 h2; subst h1 h2
  simp only [tt, seval, tkT, tkF, muT, muF]
  refine call0 (pBoolValue_f) ?_ ?_ ?_
  ·decide
  ·simp only [tt, seval, Val.row]
  rintro r rfl
  simp only [tt, seval, Val.row]
  have cl := plit_d ⟨3, 0, z0⟩
  refine call0 (cl) ?_ ?_ ?_
  ·decide
  ·simp only [tt, seval, rW, told, Val.row, lcC]
  rintro r rfl
  simp only [tt, seval, rW, told, Val.row, lcC]
  refine ⟨.ag (told (mLit ⟨3, 0, z0⟩).row [[], []]), [PB L (adv s)], ⟨⟨[], [], rfl⟩, rfl⟩, endOk ?_⟩
  simp only [tt, seval, rW, told, Val.row, lcC]
  first | done | exact pool_ok fun x => by simp only [fbC]; omega | exact ⟨by omega, Sb.refl _⟩ | exact ⟨by omega, pool_ok fun x => by simp only [fbC]; omega⟩
 | false =>
 rw [if_neg (by rw [c22]; simp)] at h
 simp only [tt, seval, tkT, tkF, muT, muF, Bool.false_eq_true]
 refine CallQ.intro (pisKind_d L hL hT s 2 ha) ?_ ?_ ?_
 ·decide
 ·simp only [tt, seval, PB]
 rintro r os ⟨rfl, rfl⟩ hos
 simp only [tt, seval, PB]
 cases c2 : isK L s 2 with
 | true =>
  rw [if_pos c2] at h
  simp only [tt, seval]
  refine CallQ.intro (pmustKind_d L hL hT s 2 ha) ?_ ?_ ?_
  ·decide
  ·simp only [tt, seval, PB]
  rintro r os ⟨rfl, rfl⟩ hos
  simp only [tt, seval, PB]
  rw [mt_yes c2]
  simp only [tt, seval]
  have ha1 := adv_le (L := L) (isK_lt c2)
  refine CallQ.intro (ptakeSign_d L hL hT (adv s) 46 ha1) ?_ ?_ ?_
  ·decide
  ·simp only [tt, seval, PB]
  rintro r os ⟨rfl, rfl⟩ hos
  simp only [tt, seval, PB]
  cases cd : isSg L (adv s) 46 with
  | true =>
   rw [if_pos cd] at h
   injection h with h; injection h with h1 h2; subst h1 h2
   simp only [tt, seval, tkT, tkF, muT, muF]
   refine CallQ.intro (pmustKind_d L hL hT (adv (adv s)) 2 (adv_le (isSg_lt cd))) ?_ ?_ ?_
   ·decide
   ·simp only [tt, seval, PB]
   rintro r os ⟨rfl, rfl⟩ hos
   simp only [tt, seval, PB]
   refine ⟨.ag (told (mCol (textAt L s) (mText L 2 (adv (adv s))).1).row [[], []]), [PB L ((mText L 2 (adv (adv s))).2)], ⟨⟨[], [], rfl⟩, rfl⟩, endOk ?_⟩
   simp only [tt, seval, rW, told, Val.row, lcC]
   first | done | exact pool_ok fun x => by simp only [fbC]; omega | exact ⟨by omega, Sb.refl _⟩ | exact ⟨by omega, pool_ok fun x => by simp only [fbC]; omega⟩
  | false =>
   rw [if_neg (by rw [cd]; simp)] at h
   injection h with h; injection h with h1 h2; subst h1 h2
   simp only [tt, seval, tkT, tkF, muT, muF, Bool.false_eq_true]
   refine ⟨.ag (told (mCol z0 (textAt L s)).row [[], []]), [PB L (adv s)], ⟨⟨[], [], rfl⟩, rfl⟩, endOk ?_⟩
   simp only [tt, seval, rW, told, Val.row, lcC]
   first | done | exact pool_ok fun x => by simp only [fbC]; omega | exact ⟨by omega, Sb.refl _⟩ | exact ⟨by omega, pool_ok fun x => by simp only [fbC]; omega⟩
 | false =>
 rw [if_neg (by rw [c2]; simp)] at h
 simp only [tt, seval, Bool.false_eq_true]
 refine CallQ.intro (ptakeSign_d L hL hT s 40 ha) ?_ ?_ ?_
 ·decide
 ·simp only [tt, seval, PB]
 rintro r os ⟨rfl, rfl⟩ hos
 simp only [tt, seval, PB]
 cases cl : isSg L s 40 with
 | true =>
  rw [if_pos cl] at h
  have ha1 := adv_le (L := L) (isSg_lt cl)
  split at h
  ·cases h
  rename_i x t hx
  injection h with h; injection h with h1 h2; subst h1 h2
  have o2 := ok1 _ _ _ hx
  obtain ⟨k1, p1, n1, v1, q1, m1, ks1, ss1⟩ := x
  have c := hf _ _ _ hx ha1
  rw [Expr.row_mk] at c
  simp only [tt, seval, tkT, tkF, muT, muF]
  refine CallQ.intro (c) ?_ ?_ ?_
  ·decide
  ·simp only [tt, seval, PB, told, Val.row, lcC]
  rintro r os ⟨⟨Fk, Fs, rfl⟩, rfl⟩ hos
  simp only [tt, seval, PB, told, Val.row, lcC]
  refine CallQ.intro (pmustSign_d L hL hT t 41 (o2.2.1 ha1)) ?_ ?_ ?_
  ·decide
  ·simp only [tt, seval, PB]
  rintro r os ⟨rfl, rfl⟩ hos
  simp only [tt, seval, PB]
  refine ⟨.ag (told ((Expr.mk k1 p1 n1 v1 q1 m1 ks1 ss1)).row [Fk, Fs]), [PB L (must (isSg L t 41) t)], ⟨⟨Fk, Fs, by first | rfl | simp only [rW, told, Val.row, lcC]⟩, rfl⟩, endOk ?_⟩
  simp only [tt, seval, rW, told, Val.row, lcC]
  first | done | exact pool_ok fun x => by simp only [fbC]; omega | exact ⟨by omega, Sb.refl _⟩ | exact ⟨by omega, pool_ok fun x => by simp only [fbC]; omega⟩
 | false =>
 rw [if_neg (by rw [cl]; simp)] at h
 simp only [tt, seval, tkT, tkF, muT, muF, Bool.false_eq_true]
 refine CallQ.intro (ptakeKey_d L hL hT s 19 ⟨#[69, 88, 73, 83, 84, 83]⟩ (by kernel_rfl) ha) ?_ ?_ ?_
 ·decide
 ·simp only [tt, seval, PB]
 rintro r os ⟨rfl, rfl⟩ hos
 simp only [tt, seval, PB]
 cases c19 : isKey L s 19 with
 | true =>
  rw [if_pos c19] at h
  simp only [tt, seval, tkT, tkF, muT, muF]
  have ha1 := adv_le (L := L) (isKey_lt c19)
  have o1 : Ok L (adv s) (must (isSg L (adv s) 40) (adv s)) := Ok.must fun h => isSg_lt h
  refine CallQ.intro (pmustSign_d L hL hT (adv s) 40 ha1) ?_ ?_ ?_
  ·decide
  ·simp only [tt, seval, PB]
  rintro r os ⟨rfl, rfl⟩ hos
  simp only [tt, seval, PB]
  split at h
  ·cases h
  rename_i x t hx
  injection h with h; injection h with h1 h2; subst h1 h2
  have o2 := okq _ _ _ hx
  obtain ⟨d, its, frs, whs, ods, lim⟩ := x
  have c := hq _ _ _ hx (o1.2.1 ha1)
  rw [Query.row_mk] at c
  refine CallQ.intro (c) ?_ ?_ ?_
  ·decide
  ·simp only [tt, seval, PB, told, lcC]
  rintro r os ⟨⟨Fi, Ff, Fw, Fo, rfl⟩, rfl⟩ hos
  simp only [tt, seval, PB, told, lcC]
  refine CallQ.intro (pmustSign_d L hL hT t 41 (o2.2.1 (o1.2.1 ha1))) ?_ ?_ ?_
  ·decide
  ·simp only [tt, seval, PB]
  rintro r os ⟨rfl, rfl⟩ hos
  simp only [tt, seval, PB]
  refine fun G0 => ?_
  refine ⟨.ag (told (mKids 9 false [] [(Query.mk d its frs whs ods lim)]).row [[], G0 :: (Fi ++ (Ff ++ (Fw ++ Fo)))]), [PB L (must (isSg L t 41) t)], ⟨⟨_, _, rfl⟩, rfl⟩, endOk ?_⟩
  simp only [tt, seval, rW, told, Val.row, lcC]
  first | done | exact pool_ok fun x => by simp only [fbC]; omega | exact ⟨by omega, Sb.refl _⟩ | exact ⟨by omega, pool_ok fun x => by simp only [fbC]; omega⟩
 | false =>
  rw [if_neg (by rw [c19]; simp)] at h
  injection h with h; injection h with h1 h2; subst h1 h2
  simp only [tt, seval, tkT, tkF, muT, muF, Bool.false_eq_true, fl]
  refine ⟨.ag (told (zExpr).row [[], []]), [PB L (fl s)], ⟨⟨[], [], rfl⟩, rfl⟩, endOk ?_⟩
  simp only [tt, seval, fl, rW, told, Val.row, lcC]
  first | done | exact pool_ok fun x => by simp only [fbC]; omega | exact ⟨by omega, Sb.refl _⟩ | exact ⟨by omega, pool_ok fun x => by simp only [fbC]; omega⟩
set_option maxHeartbeats 8000000 in
theorem pcmp_step (L : List Tok) (hL : L.length ≤ 1048576) (hT : ∀ t ∈ L, t.text.size ≤ 1048576) {f : Nat → PM Expr} {q : PM Query} (ok : ∀ lv, OkM (L := L) (f lv)) (okq : OkM (L := L) q) (hor : TpE L 42 (f 1)) (hc : TpE L 266 (f 5)) (hq : TpQ L 54 q) : TpE L 223 (stepE L f q 4) := by
 intro s x s' h ha
 have h : cmpM L f q s = some (x, s') := h
 unfold cmpM at h
 split at h
 ·cases h
 rename_i e s1 he
 have ha1 := (ok 5 _ _ _ he).2.1 ha
 obtain ⟨k1, p1, n1, v1, q1, m1, ks1, ss1⟩ := e
 have c1 := hc _ _ _ he ha
 rw [Expr.row_mk] at c1
 refine cl_of_d follows_mixed true Tryz.func223 rfl (by kernel_rfl) ?_
 simp only [Tryz.f223, tt, seval]
 refine CallQ.intro (c1) ?_ ?_ ?_
 ·decide
 ·simp only [tt, seval, PB, told, Val.row, lcC]
 rintro r os ⟨⟨Fk, Fs, rfl⟩, rfl⟩ hos
 simp only [tt, seval, PB, told, Val.row, lcC]
 have co := ptakeOp_d L hL hT s1 (opsL 4) (by decide) (by decide) ha1
 have hop0 : opIn L s1 (opsL 4) = opAt L s1 4 := rfl
 rw [hop0] at co
 simp only [ops4] at co
 refine callF [11] ?_
 simp only [tt, seval, PB, nrow, List.flatMap_cons, List.flatMap_nil, List.length_cons, List.length_nil, told, Val.row, lcC]
 refine fun G => ?_
 refine Call1.intro (co) ?_ ?_ ?_
 ·decide
 ·simp only [tt, seval, PB, nrow, List.flatMap_cons, List.flatMap_nil, List.length_cons, List.length_nil, told, Val.row, lcC]
 rintro r os ⟨rfl, rfl⟩ hos
 simp only [tt, seval, PB, nrow, List.flatMap_cons, List.flatMap_nil, List.length_cons, List.length_nil, told, Val.row, lcC]
 by_cases hop : opAt L s1 4 = 0
 ·rw [if_pos hop] at h
  have e0 : decide (¬ ((opAt L s1 4 : Nat) : Int) = 0) = false := decide_eq_false (by omega)
  have e0' : (((opAt L s1 4 : Nat) : Int) = 0) = True := eq_true (by omega)
  have e1 : decide (¬ opAt L s1 4 = 0) = false := decide_eq_false (by omega)
  simp only [tt, seval, e0, e0', e1, tkF, told, Val.row, lcC]
  unfold cmpT at h
  simp only at h
  refine CallQ.intro (ptakeKey_d L hL hT s1 16 ⟨#[73, 83]⟩ (by kernel_rfl) ha1) ?_ ?_ ?_
  ·decide
  ·simp only [tt, seval, PB, told, Val.row, lcC]
  rintro r os ⟨rfl, rfl⟩ hos
  simp only [tt, seval, PB, told, Val.row, lcC]
  cases c16 : isKey L s1 16 with
  | true =>
   rw [if_pos c16] at h
   have hav := adv_le (L := L) (isKey_lt c16)
   simp only [tt, seval, tkT, tkF, muT, muF]
   refine CallQ.intro (ptakeKey_d L hL hT (adv s1) 15 ⟨#[78, 79, 84]⟩ (by kernel_rfl) hav) ?_ ?_ ?_
   ·decide
   ·simp only [tt, seval, PB, told, Val.row, lcC]
   rintro r os ⟨rfl, rfl⟩ hos
   simp only [tt, seval, PB, told, Val.row, lcC]
   have o2 : Ok L (adv s1) (tkIf (isKey L (adv s1) 15) (adv s1)) := Ok.tkIf fun h => isKey_lt h
   have ha2 := o2.2.1 hav
   generalize tkIf (isKey L (adv s1) 15) (adv s1) = s2 at *
   generalize isKey L (adv s1) 15 = nn at *
   refine CallQ.intro (pmustKey_d L hL hT s2 20 ⟨#[78, 85, 76, 76]⟩ (by kernel_rfl) ha2) ?_ ?_ ?_
   ·decide
   ·simp only [tt, seval, PB, told, Val.row, lcC]
   rintro r os ⟨rfl, rfl⟩ hos
   simp only [tt, seval, PB, told, Val.row, lcC]
   injection h with h; injection h with h1 h2; subst h1 h2
   refine fun G0 => ?_
   refine ⟨.ag (told (mKids 5 nn [(Expr.mk k1 p1 n1 v1 q1 m1 ks1 ss1)] []).row [G0 :: (Fk ++ Fs), []]), [PB L (must (isKey L s2 20) s2)], ⟨⟨_, _, rfl⟩, rfl⟩, endOk ?_⟩
   simp only [tt, seval, rW, told, Val.row, lcC]
   first | done | exact pool_ok fun x => by simp only [fbC]; omega | exact ⟨by omega, Sb.refl _⟩ | exact ⟨by omega, pool_ok fun x => by simp only [fbC]; omega⟩
  | false =>
  rw [if_neg (by rw [c16]; simp)] at h
  simp only [tt, seval, tkT, tkF, muT, muF, Bool.false_eq_true]
  refine CallQ.intro (ptakeKey_d L hL hT s1 15 ⟨#[78, 79, 84]⟩ (by kernel_rfl) ha1) ?_ ?_ ?_
  ·decide
  ·simp only [tt, seval, PB, told, Val.row, lcC]
  rintro r os ⟨rfl, rfl⟩ hos
  simp only [tt, seval, PB, told, Val.row, lcC]
  have o2 : Ok L s1 (tkIf (isKey L s1 15) s1) := Ok.tkIf fun h => isKey_lt h
  have ha2 := o2.2.1 ha1
  generalize tkIf (isKey L s1 15) s1 = s2 at *
  generalize isKey L s1 15 = nn at *
  refine CallQ.intro (ptakeKey_d L hL hT s2 18 ⟨#[66, 69, 84, 87, 69, 69, 78]⟩ (by kernel_rfl) ha2) ?_ ?_ ?_
  ·decide
  ·simp only [tt, seval, PB, told, Val.row, lcC]
  rintro r os ⟨rfl, rfl⟩ hos
  simp only [tt, seval, PB, told, Val.row, lcC]
  cases c18 : isKey L s2 18 with
  | true =>
   rw [if_pos c18] at h
   split at h
   ·cases h
   rename_i lo s3 hlo
   split at h
   ·cases h
   rename_i hi s4 hhi
   injection h with h; injection h with h1 h2; subst h1 h2
   have hav := adv_le (L := L) (isKey_lt c18)
   have ha3 := (ok 5 _ _ _ hlo).2.1 hav
   obtain ⟨k2, p2, n2, v2, q2, m2, ks2, ss2⟩ := lo
   have c2 := hc _ _ _ hlo hav
   rw [Expr.row_mk] at c2
   simp only [tt, seval, tkT, tkF, muT, muF]
   refine CallQ.intro (c2) ?_ ?_ ?_
   ·decide
   ·simp only [tt, seval, PB, told, Val.row, lcC]
   rintro r os ⟨⟨Gk, Gs, rfl⟩, rfl⟩ hos
   simp only [tt, seval, PB, told, Val.row, lcC]
   refine CallQ.intro (pmustKey_d L hL hT s3 13 ⟨#[65, 78, 68]⟩ (by kernel_rfl) ha3) ?_ ?_ ?_
   ·decide
   ·simp only [tt, seval, PB, told, Val.row, lcC]
   rintro r os ⟨rfl, rfl⟩ hos
   simp only [tt, seval, PB, told, Val.row, lcC]
   have o3 : Ok L s3 (must (isKey L s3 13) s3) := Ok.must fun h => isKey_lt h
   have ha4 := o3.2.1 ha3
   generalize must (isKey L s3 13) s3 = s5 at *
   obtain ⟨k3, p3, n3, v3, q3, m3, ks3, ss3⟩ := hi
   have c3 := hc _ _ _ hhi ha4
   rw [Expr.row_mk] at c3
   refine dDrawn.intro [43] (.take 0 (.take 3 (.br 1 (.br 2 (.br 4 (.br 5 (.take 6 (.br 7 .done .nobr)) .nobr) .nobr) (.br 4 (.take 2 (.br 5 (.take 6 (.br 7 .done .nobr)) .nobr)) .nobr)) (.br 2 (.br 1 (.br 4 (.br 5 (.take 6 (.br 7 .done .nobr)) .nobr) .nobr) (.br 4 (.take 1 (.br 5 (.take 6 (.br 7 .done .nobr)) .nobr)) .nobr)) (.br 4 (.take 1 (.take 2 (.br 5 (.take 6 (.br 7 .done .nobr)) .nobr))) .nobr))))) (by kernel_rfl) ?_
   simp only [tt, seval]
   all_goals repeat' first | refine brC ?_ ?_ | refine brC2 ?_ ?_
   all_goals
    refine CallQ.intro (c3) ?_ ?_ ?_
    ·decide
    ·simp only [tt, seval, PB, told, Val.row, lcC]
     try decide
    rintro r os ⟨⟨Hk, Hs, rfl⟩, rfl⟩ hos
    simp only [tt, seval, PB, told, Val.row, lcC]
   all_goals
    refine fun G0 => ?_
    refine ⟨.ag (told (mKids 6 nn [(Expr.mk k1 p1 n1 v1 q1 m1 ks1 ss1), (Expr.mk k2 p2 n2 v2 q2 m2 ks2 ss2), (Expr.mk k3 p3 n3 v3 q3 m3 ks3 ss3)] []).row [G0 :: (Fk ++ (Fs ++ (Gk ++ (Gs ++ (Hk ++ Hs))))), []]), [PB L (s4)], ⟨⟨_, _, rfl⟩, rfl⟩, endOk ?_⟩
    simp only [tt, seval, rW, told, Val.row, lcC]
    first | done | exact pool_ok fun x => by simp only [fbC]; omega | exact ⟨by omega, Sb.refl _⟩ | exact ⟨by omega, pool_ok fun x => by simp only [fbC]; omega⟩
  | false =>
  rw [if_neg (by rw [c18]; simp)] at h
  simp only [tt, seval, tkT, tkF, muT, muF, Bool.false_eq_true]
  refine CallQ.intro (ptakeKey_d L hL hT s2 17 ⟨#[73, 78]⟩ (by kernel_rfl) ha2) ?_ ?_ ?_
  ·decide
  ·simp only [tt, seval, PB, told, Val.row, lcC]
  rintro r os ⟨rfl, rfl⟩ hos
  simp only [tt, seval, PB, told, Val.row, lcC]
  cases c17 : isKey L s2 17 with
  | true =>
   rw [if_pos c17] at h
   have hav := adv_le (L := L) (isKey_lt c17)
   have ci := pin_step L hL hT ok okq hor hq (Expr.mk k1 p1 n1 v1 q1 m1 ks1 ss1) nn Fk Fs (adv s2) x s' h hav
   obtain ⟨k2, p2, n2, v2, q2, m2, ks2, ss2⟩ := x
   simp only [Expr.row_mk, told, Val.row, lcC] at ci
   simp only [tt, seval, tkT, tkF, muT, muF]
   refine callT ([G]) (ci) ?_ ?_ ?_ ?_
   ·decide
   ·simp only [tt, seval, PB, told, Val.row, lcC]
    try decide
   ·exact fun x => by simp only [fbC]; omega
   rintro r os ⟨⟨Hk, Hs, rfl⟩, rfl⟩ hos
   simp only [tt, seval, PB, told, Val.row, lcC]
   refine ⟨.ag (told ((Expr.mk k2 p2 n2 v2 q2 m2 ks2 ss2)).row [Hk, Hs]), [PB L (s')], ⟨⟨Hk, Hs, by first | rfl | simp only [rW, told, Val.row, lcC]⟩, rfl⟩, endOk ?_⟩
   simp only [tt, seval, rW, told, Val.row, lcC]
   first | done | exact pool_ok fun x => by simp only [fbC]; omega | exact ⟨by omega, Sb.refl _⟩ | exact ⟨by omega, pool_ok fun x => by simp only [fbC]; omega⟩
  | false =>
   rw [if_neg (by rw [c17]; simp)] at h
   injection h with h; injection h with h1 h2; subst h1 h2
   simp only [tt, seval, tkT, tkF, muT, muF, Bool.false_eq_true]
   obtain ⟨a2, b2⟩ := s2
   cases b2 with
   | true =>
    simp only [tt, seval]
    refine ⟨.ag (told ((Expr.mk k1 p1 n1 v1 q1 m1 ks1 ss1)).row [Fk, Fs]), [PB L (⟨a2, true⟩)], ⟨⟨Fk, Fs, by first | rfl | simp only [rW, told, Val.row, lcC]⟩, rfl⟩, endOk ?_⟩
    simp only [tt, seval, rW, told, Val.row, lcC]
    first | done | exact pool_ok fun x => by simp only [fbC]; omega | exact ⟨by omega, Sb.refl _⟩ | exact ⟨by omega, pool_ok fun x => by simp only [fbC]; omega⟩
   | false =>
    simp only [tt, seval]
    refine ⟨.ag (told ((Expr.mk k1 p1 n1 v1 q1 m1 ks1 ss1)).row [Fk, Fs]), [PB L (⟨a2, false || nn⟩)], ⟨⟨Fk, Fs, by first | rfl | simp only [rW, told, Val.row, lcC]⟩, rfl⟩, endOk ?_⟩
    simp only [tt, seval, rW, told, Val.row, lcC, Bool.false_or]
    first | done | exact pool_ok fun x => by simp only [fbC]; omega | exact ⟨by omega, Sb.refl _⟩ | exact ⟨by omega, pool_ok fun x => by simp only [fbC]; omega⟩
 ·rw [if_neg hop] at h
  split at h
  ·cases h
  rename_i z u hz
  injection h with h; injection h with h1 h2; subst h1 h2
  have hav := adv_le (L := L) (opAt_lt hop)
  obtain ⟨k2, p2, n2, v2, q2, m2, ks2, ss2⟩ := z
  have c2 := hc _ _ _ hz hav
  rw [Expr.row_mk] at c2
  have cb := fun Gk Gs => pbin_d (opAt L s1 4) (Expr.mk k1 p1 n1 v1 q1 m1 ks1 ss1) (Expr.mk k2 p2 n2 v2 q2 m2 ks2 ss2) Fk Fs Gk Gs
  simp only [Expr.row_mk, told, Val.row, lcC] at cb
  have e0 : decide (¬ ((opAt L s1 4 : Nat) : Int) = 0) = true := decide_eq_true (by omega)
  have e0' : (((opAt L s1 4 : Nat) : Int) = 0) = False := eq_false (by omega)
  have e1 : decide (¬ opAt L s1 4 = 0) = true := decide_eq_true (by omega)
  simp only [tt, seval, e0, e0', e1, tkT, told, Val.row, lcC]
  refine dDrawn.intro [18] (.take 0 (.take 2 (.br 1 (.br 3 (.br 4 (.br 5 .done .nobr) .nobr) .nobr) (.br 3 (.take 1 (.br 4 (.br 5 .done .nobr) .nobr)) .nobr)))) (by kernel_rfl) ?_
  simp only [tt, seval]
  all_goals repeat' first | refine brC ?_ ?_ | refine brC2 ?_ ?_
  all_goals
   refine CallQ.intro (c2) ?_ ?_ ?_
   ·decide
   ·simp only [tt, seval, PB, told, Val.row, lcC]
    try decide
   rintro r os ⟨⟨Gk, Gs, rfl⟩, rfl⟩ hos
   simp only [tt, seval, PB, told, Val.row, lcC]
  all_goals repeat' first | refine brC ?_ ?_ | refine brC2 ?_ ?_
  all_goals
   refine callT ([G]) (cb Gk Gs) ?_ ?_ ?_ ?_
   ·decide
   ·simp only [tt, seval, PB, mBin, Expr.row_mk, told, Val.row, lcC]
    try decide
   ·exact fun x => by simp only [fbC]; omega
   rintro r os ⟨rfl, Hk, Hs, rfl⟩ hos
   simp only [tt, seval, PB, mBin, Expr.row_mk, told, Val.row, lcC]
  all_goals
   refine ⟨.ag (told (mBin (opAt L s1 4) (Expr.mk k1 p1 n1 v1 q1 m1 ks1 ss1) (Expr.mk k2 p2 n2 v2 q2 m2 ks2 ss2)).row [Hk, Hs]), [PB L (u)], ⟨⟨Hk, Hs, by first | rfl | simp only [rW, told, Val.row, lcC]⟩, rfl⟩, endOk ?_⟩
   simp only [tt, seval, rW, told, Val.row, lcC]
   first | done | exact pool_ok fun x => by simp only [fbC]; omega | exact ⟨by omega, Sb.refl _⟩ | exact ⟨by omega, pool_ok fun x => by simp only [fbC]; omega⟩
def TpI (L : List Tok) (m : PM Item) : Prop := ∀ s e s', m s = some (e, s') → s.a ≤ L.length → Cl Tryz.prog 103 [.c (.p 9000 0)] [PB L s] fun r os => (∃ F0 F1, r = .ag (told (e).row [F0, F1])) ∧ os = [PB L s']
def TpK (L : List Tok) (m : PM SortKey) : Prop := ∀ s e s', m s = some (e, s') → s.a ≤ L.length → Cl Tryz.prog 107 [.c (.p 9000 0)] [PB L s] fun r os => (∃ F0 F1, r = .ag (told (e).row [F0, F1])) ∧ os = [PB L s']
set_option maxHeartbeats 4000000 in
theorem pitem_step (L : List Tok) (hL : L.length ≤ 1048576) (hT : ∀ t ∈ L, t.text.size ≤ 1048576) {f : Nat → PM Expr} (ok : ∀ lv, OkM (L := L) (f lv)) (hf1 : TpE L 42 (f 1)) : TpI L (itemM L f) := by
 intro s x s' h ha
 unfold itemM at h
 refine cl_of_d follows_mixed true Tryz.func103 rfl (by kernel_rfl) ?_
 simp only [Tryz.f103, tt, seval]
 refine CallQ.intro (ptakeSign_d L hL hT s 42 ha) ?_ ?_ ?_
 ·decide
 ·simp only [tt, seval, PB]
 rintro r os ⟨rfl, rfl⟩ hos
 simp only [tt, seval, PB]
 cases c42 : isSg L s 42 with
 | true =>
  rw [if_pos c42] at h
  injection h with h; injection h with h1 h2; subst h1 h2
  simp only [tt, seval, tkT, tkF, muT, muF]
  refine ⟨.ag (told (Item.mk true z0 zExpr z0).row [[], []]), [PB L (adv s)], ⟨⟨[], [], by first | rfl | simp only [Item.row_mk, Source.row_mk, SortKey.row_mk, rW, told, Val.row, lcC]⟩, rfl⟩, endOk ?_⟩
  simp only [tt, seval, Item.row_mk, Source.row_mk, SortKey.row_mk, rW, told, Val.row, lcC]
  first | done | exact pool_ok fun x => by simp only [fbC]; omega | exact ⟨by omega, Sb.refl _⟩ | exact ⟨by omega, pool_ok fun x => by simp only [fbC]; omega⟩
 | false =>
 rw [if_neg (by rw [c42]; simp)] at h
 simp only [tt, seval, tkT, tkF, muT, muF, Bool.false_eq_true]
 refine CallQ.intro (pisKind_d L hL hT s 2 ha) ?_ ?_ ?_
 ·decide
 ·simp only [tt, seval, PB]
 rintro r os ⟨rfl, rfl⟩ hos
 simp only [tt, seval, PB]
 cases hK : isK L s 2 with
 | false =>
  simp only [tt, seval, Bool.false_eq_true]
  have hsf : starN L s = false := by unfold starN; rw [hK]; rfl
  rw [if_neg (by rw [hsf]; simp)] at h
  split at h
  ·cases h
  rename_i e s1 he
  injection h with h; injection h with h1 h2; subst h1 h2
  have ha1 := (ok 1 _ _ _ he).2.1 ha
  obtain ⟨k1, p1, n1, v1, q1, m1, ks1, ss1⟩ := e
  have c1 := hf1 _ _ _ he ha
  rw [Expr.row_mk] at c1
  try simp only [tt, seval, Bool.false_eq_true]
  refine CallQ.intro (c1) ?_ ?_ ?_
  ·decide
  ·simp only [tt, seval, PB, told, Val.row, lcC]
  rintro r os ⟨⟨Fk, Fs, rfl⟩, rfl⟩ hos
  simp only [tt, seval, PB, told, Val.row, lcC]
  refine dDrawn.intro [35] (.take 1 (.br 0 (.br 2 (.take 3 (.br 4 .done .nobr)) .nobr) (.br 2 (.take 0 (.take 3 (.br 4 .done .nobr))) .nobr))) (by kernel_rfl) ?_
  simp only [tt, seval]
  all_goals repeat' first | refine brC ?_ ?_ | refine brC2 ?_ ?_
  all_goals
   refine CallQ.intro (pas_d L hL hT s1 ha1) ?_ ?_ ?_
   ·decide
   ·simp only [tt, seval, PB, told, Val.row, lcC]
    try decide
   rintro r os ⟨rfl, rfl⟩ hos
   simp only [tt, seval, PB, told, Val.row, lcC]
  all_goals
   refine ⟨.ag (told (Item.mk false z0 (Expr.mk k1 p1 n1 v1 q1 m1 ks1 ss1) (asM L s1).1).row [Fk, Fs]), [PB L ((asM L s1).2)], ⟨⟨Fk, Fs, by first | rfl | simp only [Item.row_mk, Source.row_mk, SortKey.row_mk, rW, told, Val.row, lcC]⟩, rfl⟩, endOk ?_⟩
   simp only [tt, seval, Item.row_mk, Source.row_mk, SortKey.row_mk, rW, told, Val.row, lcC]
   first | done | exact pool_ok fun x => by simp only [fbC]; omega | exact ⟨by omega, Sb.refl _⟩ | exact ⟨by omega, pool_ok fun x => by simp only [fbC]; omega⟩
 | true =>
  simp only [tt, seval]
  refine CallQ.intro (pis_d L hL hT s 1 5 ⟨#[46]⟩ (by omega) ha) ?_ ?_ ?_
  ·decide
  ·simp only [tt, seval, PB]
  rintro r os ⟨rfl, rfl⟩ hos
  simp only [tt, seval, PB]
  cases h1 : isT L s 1 5 ⟨#[46]⟩ with
  | false =>
   have h1' : isT L s 1 (5 : Nat) ⟨#[46]⟩ = false := h1
   simp only [tt, seval, h1', Bool.false_eq_true]
   have hsf : starN L s = false := by unfold starN; rw [hK, h1]; rfl
   rw [if_neg (by rw [hsf]; simp)] at h
   split at h
   ·cases h
   rename_i e s1 he
   injection h with h; injection h with h1 h2; subst h1 h2
   have ha1 := (ok 1 _ _ _ he).2.1 ha
   obtain ⟨k1, p1, n1, v1, q1, m1, ks1, ss1⟩ := e
   have c1 := hf1 _ _ _ he ha
   rw [Expr.row_mk] at c1
   try simp only [tt, seval, Bool.false_eq_true]
   refine CallQ.intro (c1) ?_ ?_ ?_
   ·decide
   ·simp only [tt, seval, PB, told, Val.row, lcC]
   rintro r os ⟨⟨Fk, Fs, rfl⟩, rfl⟩ hos
   simp only [tt, seval, PB, told, Val.row, lcC]
   refine dDrawn.intro [35] (.take 1 (.br 0 (.br 2 (.take 3 (.br 4 .done .nobr)) .nobr) (.br 2 (.take 0 (.take 3 (.br 4 .done .nobr))) .nobr))) (by kernel_rfl) ?_
   simp only [tt, seval]
   all_goals repeat' first | refine brC ?_ ?_ | refine brC2 ?_ ?_
   all_goals
    refine CallQ.intro (pas_d L hL hT s1 ha1) ?_ ?_ ?_
    ·decide
    ·simp only [tt, seval, PB, told, Val.row, lcC]
     try decide
    rintro r os ⟨rfl, rfl⟩ hos
    simp only [tt, seval, PB, told, Val.row, lcC]
   all_goals
    refine ⟨.ag (told (Item.mk false z0 (Expr.mk k1 p1 n1 v1 q1 m1 ks1 ss1) (asM L s1).1).row [Fk, Fs]), [PB L ((asM L s1).2)], ⟨⟨Fk, Fs, by first | rfl | simp only [Item.row_mk, Source.row_mk, SortKey.row_mk, rW, told, Val.row, lcC]⟩, rfl⟩, endOk ?_⟩
    simp only [tt, seval, Item.row_mk, Source.row_mk, SortKey.row_mk, rW, told, Val.row, lcC]
    first | done | exact pool_ok fun x => by simp only [fbC]; omega | exact ⟨by omega, Sb.refl _⟩ | exact ⟨by omega, pool_ok fun x => by simp only [fbC]; omega⟩
  | true =>
   have h1' : isT L s 1 (5 : Nat) ⟨#[46]⟩ = true := h1
   simp only [tt, seval, h1']
   refine CallQ.intro (pis_d L hL hT s 2 5 ⟨#[42]⟩ (by omega) ha) ?_ ?_ ?_
   ·decide
   ·simp only [tt, seval, PB]
   rintro r os ⟨rfl, rfl⟩ hos
   simp only [tt, seval, PB]
   cases h2 : isT L s 2 5 ⟨#[42]⟩ with
   | false =>
    have h2' : isT L s 2 (5 : Nat) ⟨#[42]⟩ = false := h2
    simp only [tt, seval, h2', Bool.false_eq_true]
    have hsf : starN L s = false := by unfold starN; rw [hK, h1, h2]; rfl
    rw [if_neg (by rw [hsf]; simp)] at h
    split at h
    ·cases h
    rename_i e s1 he
    injection h with h; injection h with h1 h2; subst h1 h2
    have ha1 := (ok 1 _ _ _ he).2.1 ha
    obtain ⟨k1, p1, n1, v1, q1, m1, ks1, ss1⟩ := e
    have c1 := hf1 _ _ _ he ha
    rw [Expr.row_mk] at c1
    try simp only [tt, seval, Bool.false_eq_true]
    refine CallQ.intro (c1) ?_ ?_ ?_
    ·decide
    ·simp only [tt, seval, PB, told, Val.row, lcC]
    rintro r os ⟨⟨Fk, Fs, rfl⟩, rfl⟩ hos
    simp only [tt, seval, PB, told, Val.row, lcC]
    refine dDrawn.intro [35] (.take 1 (.br 0 (.br 2 (.take 3 (.br 4 .done .nobr)) .nobr) (.br 2 (.take 0 (.take 3 (.br 4 .done .nobr))) .nobr))) (by kernel_rfl) ?_
    simp only [tt, seval]
    all_goals repeat' first | refine brC ?_ ?_ | refine brC2 ?_ ?_
    all_goals
     refine CallQ.intro (pas_d L hL hT s1 ha1) ?_ ?_ ?_
     ·decide
     ·simp only [tt, seval, PB, told, Val.row, lcC]
      try decide
     rintro r os ⟨rfl, rfl⟩ hos
     simp only [tt, seval, PB, told, Val.row, lcC]
    all_goals
     refine ⟨.ag (told (Item.mk false z0 (Expr.mk k1 p1 n1 v1 q1 m1 ks1 ss1) (asM L s1).1).row [Fk, Fs]), [PB L ((asM L s1).2)], ⟨⟨Fk, Fs, by first | rfl | simp only [Item.row_mk, Source.row_mk, SortKey.row_mk, rW, told, Val.row, lcC]⟩, rfl⟩, endOk ?_⟩
     simp only [tt, seval, Item.row_mk, Source.row_mk, SortKey.row_mk, rW, told, Val.row, lcC]
     first | done | exact pool_ok fun x => by simp only [fbC]; omega | exact ⟨by omega, Sb.refl _⟩ | exact ⟨by omega, pool_ok fun x => by simp only [fbC]; omega⟩
   | true =>
    have h2' : isT L s 2 (5 : Nat) ⟨#[42]⟩ = true := h2
    simp only [tt, seval, h2']
    have hst : starN L s = true := by unfold starN; rw [hK, h1, h2]; rfl
    rw [if_pos hst] at h
    injection h with h; injection h with h1 h2; subst h1 h2
    have l3 := (starN_lt hst).2
    have l1 := isK_lt hK
    try simp only [tt, seval]
    refine CallQ.intro (pmustKind_d L hL hT s 2 ha) ?_ ?_ ?_
    ·decide
    ·simp only [tt, seval, PB]
    rintro r os ⟨rfl, rfl⟩ hos
    simp only [tt, seval, PB]
    rw [mt_yes hK]
    have e3 : IntKind.i64.wrap (((adv s).a : Int) + 2) = ((adv (adv (adv s))).a : Int) := by
     show IntKind.i64.wrap (((s.a + 1 : Nat) : Int) + 2) = ((s.a + 1 + 1 + 1 : Nat) : Int)
     rw [wrap_id (n := ((s.a + 1 : Nat) : Int) + 2) (by omega) (by omega)]; omega
    have e4 : (adv s).b = (adv (adv (adv s))).b := rfl
    simp only [tt, seval, e3, e4]
    refine ⟨.ag (told (Item.mk true (textAt L s) zExpr z0).row [[], []]), [PB L (adv (adv (adv s)))], ⟨⟨[], [], by first | rfl | simp only [Item.row_mk, Source.row_mk, SortKey.row_mk, rW, told, Val.row, lcC]⟩, rfl⟩, endOk ?_⟩
    simp only [tt, seval, Item.row_mk, Source.row_mk, SortKey.row_mk, rW, told, Val.row, lcC]
    first | done | exact pool_ok fun x => by simp only [fbC]; omega | exact ⟨by omega, Sb.refl _⟩ | exact ⟨by omega, pool_ok fun x => by simp only [fbC]; omega⟩
theorem psource_d (L : List Tok) (hL : L.length ≤ 1048576) (hT : ∀ t ∈ L, t.text.size ≤ 1048576) (s : PS) (ha : s.a ≤ L.length) : Cl Tryz.prog 168 [.c (.p 9000 0)] [PB L s] fun r os => r = .ag (told (sourceM L s).1.row [[]]) ∧ os = [PB L (sourceM L s).2] := by
 refine cl_of_d follows_mixed true Tryz.func168 rfl (by kernel_rfl) ?_
 simp only [Tryz.f168, tt, seval]
 refine CallQ.intro (pmustKind_d L hL hT s 2 ha) ?_ ?_ ?_
 ·decide
 ·simp only [tt, seval, PB]
 rintro r os ⟨rfl, rfl⟩ hos
 simp only [tt, seval, PB]
 have ha1 := (Ok.mText (L := L) 2 s).2.1 ha
 have he : sourceM L s = (.mk (mText L 2 s).1 (asM L (mText L 2 s).2).1 [], (asM L (mText L 2 s).2).2) := rfl
 rw [he]
 generalize (mText L 2 s).1 = x at *
 generalize (mText L 2 s).2 = u at *
 refine CallQ.intro (pas_d L hL hT u ha1) ?_ ?_ ?_
 ·decide
 ·simp only [tt, seval, PB]
 rintro r os ⟨rfl, rfl⟩ hos
 simp only [tt, seval, PB]
 refine ⟨.ag (told (Source.mk x (asM L u).1 []).row [[]]), [PB L (asM L u).2], ⟨rfl, rfl⟩, endOk ?_⟩
 simp only [tt, seval, PB, Source.row_mk, List.flatMap_nil, List.length_nil, told]
 first | done | exact pool_ok fun x => by simp only [fbC]; omega | exact ⟨by omega, Sb.refl _⟩ | exact ⟨by omega, pool_ok fun x => by simp only [fbC]; omega⟩
def TpL (L : List Tok) (fn : FuncId) (m : PM (List Expr)) : Prop := ∀ s x s', m s = some (x, s') → s.a ≤ L.length → Cl Tryz.prog fn [.c (.p 9000 0)] [PB L s] fun r os => (∃ F, r = .c (.ow 29 x.length (x.flatMap Expr.row) (some F))) ∧ os = [PB L s']
theorem pwhere_step (L : List Tok) (hL : L.length ≤ 1048576) (hT : ∀ t ∈ L, t.text.size ≤ 1048576) {f : Nat → PM Expr} (hf1 : TpE L 42 (f 1)) : TpL L 106 (whereM L f) := by
 intro s x s' h ha
 unfold whereM at h
 refine cl_of_d follows_mixed true Tryz.func106 rfl (by kernel_rfl) ?_
 simp only [Tryz.f106, tt, seval]
 refine CallQ.intro (ptakeKey_d L hL hT s 6 ⟨#[87, 72, 69, 82, 69]⟩ (by kernel_rfl) ha) ?_ ?_ ?_
 ·decide
 ·simp only [tt, seval, PB]
 rintro r os ⟨rfl, rfl⟩ hos
 simp only [tt, seval, PB]
 cases c6 : isKey L s 6 with
 | true =>
  rw [if_pos c6] at h
  split at h
  ·cases h
  rename_i e s1 he
  injection h with h; injection h with h1 h2; subst h1 h2
  simp only [tt, seval, tkT, tkF, muT, muF]
  obtain ⟨k1, p1, n1, v1, q1, m1, ks1, ss1⟩ := e
  have c1 := hf1 _ _ _ he (adv_le (isKey_lt c6))
  rw [Expr.row_mk] at c1
  refine CallQ.intro (c1) ?_ ?_ ?_
  ·decide
  ·simp only [tt, seval, PB, told, Val.row, lcC]
  rintro r os ⟨⟨Fk, Fs, rfl⟩, rfl⟩ hos
  simp only [tt, seval, PB, told, Val.row, lcC]
  refine ⟨.c (.ow 29 [(Expr.mk k1 p1 n1 v1 q1 m1 ks1 ss1)].length ([(Expr.mk k1 p1 n1 v1 q1 m1 ks1 ss1)].flatMap Expr.row) (some (Fk ++ Fs))), [PB L s1], ⟨⟨_, rfl⟩, rfl⟩, endOk ?_⟩
  simp only [tt, seval, rW, Val.row]
  first | done | exact Sb.refl _ | exact pool_ok fun x => by simp only [fbC]; omega | exact ⟨by omega, Sb.refl _⟩ | exact ⟨by omega, pool_ok fun x => by simp only [fbC]; omega⟩
 | false =>
  rw [if_neg (by rw [c6]; simp)] at h
  injection h with h; injection h with h1 h2; subst h1 h2
  simp only [tt, seval, tkT, tkF, muT, muF, Bool.false_eq_true]
  refine ⟨.c (.ow 29 ([] : List Expr).length (([] : List Expr).flatMap Expr.row) (some [])), [PB L s], ⟨⟨_, rfl⟩, rfl⟩, endOk ?_⟩
  simp only [tt, seval, PB, List.flatMap_nil, List.length_nil]
  first | done | exact Sb.refl _ | exact pool_ok fun x => by simp only [fbC]; omega | exact ⟨by omega, Sb.refl _⟩ | exact ⟨by omega, pool_ok fun x => by simp only [fbC]; omega⟩
set_option maxHeartbeats 2000000 in
theorem pkey_step (L : List Tok) (hL : L.length ≤ 1048576) (hT : ∀ t ∈ L, t.text.size ≤ 1048576) {f : Nat → PM Expr} (ok : ∀ lv, OkM (L := L) (f lv)) (hf1 : TpE L 42 (f 1)) : TpK L (sortM L f) := by
 intro s x s' h ha
 unfold sortM at h
 split at h
 ·cases h
 rename_i e s1 he
 have ha1 := (ok 1 _ _ _ he).2.1 ha
 obtain ⟨k1, p1, n1, v1, q1, m1, ks1, ss1⟩ := e
 have c1 := hf1 _ _ _ he ha
 rw [Expr.row_mk] at c1
 refine cl_of_d follows_mixed true Tryz.func107 rfl (by kernel_rfl) ?_
 simp only [Tryz.f107, tt, seval]
 refine CallQ.intro (c1) ?_ ?_ ?_
 ·decide
 ·simp only [tt, seval, PB, told, Val.row, lcC]
 rintro r os ⟨⟨Fk, Fs, rfl⟩, rfl⟩ hos
 simp only [tt, seval, PB, told, Val.row, lcC]
 refine CallQ.intro (ptakeKey_d L hL hT s1 9 ⟨#[65, 83, 67]⟩ (by kernel_rfl) ha1) ?_ ?_ ?_
 ·decide
 ·simp only [tt, seval, PB]
 rintro r os ⟨rfl, rfl⟩ hos
 simp only [tt, seval, PB]
 cases c9 : isKey L s1 9 with
 | true =>
  rw [if_pos c9] at h
  injection h with h; injection h with h1 h2; subst h1 h2
  simp only [tt, seval, tkT, tkF, muT, muF, Bool.not_true, Bool.false_eq_true]
  refine ⟨.ag (told (SortKey.mk (Expr.mk k1 p1 n1 v1 q1 m1 ks1 ss1) false).row [Fk, Fs]), [PB L (adv s1)], ⟨⟨Fk, Fs, by first | rfl | simp only [Item.row_mk, Source.row_mk, SortKey.row_mk, rW, told, Val.row, lcC]⟩, rfl⟩, endOk ?_⟩
  simp only [tt, seval, Item.row_mk, Source.row_mk, SortKey.row_mk, rW, told, Val.row, lcC]
  first | done | exact pool_ok fun x => by simp only [fbC]; omega | exact ⟨by omega, Sb.refl _⟩ | exact ⟨by omega, pool_ok fun x => by simp only [fbC]; omega⟩
 | false =>
  rw [if_neg (by rw [c9]; simp)] at h
  injection h with h; injection h with h1 h2; subst h1 h2
  simp only [tt, seval, tkT, tkF, muT, muF, Bool.not_false]
  refine CallQ.intro (ptakeKey_d L hL hT s1 10 ⟨#[68, 69, 83, 67]⟩ (by kernel_rfl) ha1) ?_ ?_ ?_
  ·decide
  ·simp only [tt, seval, PB]
  rintro r os ⟨rfl, rfl⟩ hos
  simp only [tt, seval, PB]
  refine ⟨.ag (told (SortKey.mk (Expr.mk k1 p1 n1 v1 q1 m1 ks1 ss1) (isKey L s1 10)).row [Fk, Fs]), [PB L (tkIf (isKey L s1 10) s1)], ⟨⟨Fk, Fs, by first | rfl | simp only [Item.row_mk, Source.row_mk, SortKey.row_mk, rW, told, Val.row, lcC]⟩, rfl⟩, endOk ?_⟩
  simp only [tt, seval, Item.row_mk, Source.row_mk, SortKey.row_mk, rW, told, Val.row, lcC]
  first | done | exact pool_ok fun x => by simp only [fbC]; omega | exact ⟨by omega, Sb.refl _⟩ | exact ⟨by omega, pool_ok fun x => by simp only [fbC]; omega⟩
set_option maxHeartbeats 4000000 in
theorem psources_step (L : List Tok) (hL : L.length ≤ 1048576) (hT : ∀ t ∈ L, t.text.size ≤ 1048576) {f : Nat → PM Expr} (ok : ∀ lv, OkM (L := L) (f lv)) (hf1 : TpE L 42 (f 1)) (s : PS) (x : List Source) (s' : PS) (h : sourcesM L f (L.length + 1) [(sourceM L s).1] (sourceM L s).2 = some (x, s')) (ha : s.a ≤ L.length) : Cl Tryz.prog 105 [.c (.p 9000 0)] [PB L s] fun r os => (∃ F, r = .c (.ow 124 x.length (x.flatMap Source.row) (some F))) ∧ os = [PB L s'] := by
 have c1 := psource_d L hL hT s ha
 have ha1 := (Ok.sourceM (L := L) s).2.1 ha
 generalize (sourceM L s).2 = s1 at *
 generalize (sourceM L s).1 = sr1 at *
 obtain ⟨tb1, sa1, on1⟩ := sr1
 rw [Source.row_mk] at c1
 refine cl_of_d follows_mixed true Tryz.func105 rfl (by kernel_rfl) ?_
 simp only [Tryz.f105, tt, seval]
 refine CallQ.intro (c1) ?_ ?_ ?_
 ·decide
 ·simp only [tt, seval, PB, told, Val.row, lcC]
 rintro r os ⟨rfl, rfl⟩ hos
 simp only [tt, seval, PB, told, Val.row, lcC]
 refine dLoop.gh [.ren 7 31] ⟨by decide, by decide, ?_⟩
 refine dLoop0.introR (fun f' Lo p => ∃ (l : List Source) (v : PS) (n : Nat) (Fl Pl : List (List Nat)), f' 3 = .c (.s 31 l.length) ∧ sourcesM L f n l v = some (x, s') ∧ v.a ≤ L.length ∧ l.length ≤ v.a + 1 ∧ Sb Fl.flatten Pl.flatten ∧ Lo = [(9000, .str (PB L v)), (31, .arr 124 (l).length ((l).flatMap Source.row) (some (Fl)))] ∧ p = some Pl) (fun _ Lo _ => L.length - atS Lo) [(9000, .str (PB L s1)), (31, .arr 124 ([Source.mk tb1 sa1 on1]).length (([Source.mk tb1 sa1 on1]).flatMap Source.row) (some ([])))] (some []) ⟨by simp only [Item.row_mk, Source.row_mk, SortKey.row_mk, rW, Val.row, lcC, List.flatMap_append, List.length_append]; exact SubO.cons rfl (SubO.cons rfl (SubO.nil _)), PoSub.refl _, ?_⟩ ?_
 ·simp only [tt, seval]
  exact ⟨[Source.mk tb1 sa1 on1], s1, L.length + 1, [], [], rfl, h, ha1, by simp, Sb.refl _, rfl, rfl⟩
 ·rintro g' Lo p ⟨l, v, n, Fl, Pl, h3, hm, hv, hml, hsb, rfl, rfl⟩
  simp only [tt, seval] at h3
  simp only [tt, seval, h3]
  refine CallQ.intro (ptakeSign_d L hL hT v 44 hv) ?_ ?_ ?_
  ·decide
  ·simp only [tt, seval, PB, h3]
  rintro r os ⟨rfl, rfl⟩ hos
  simp only [tt, seval, PB, h3]
  cases n with
  | zero => cases hm
  | succ n =>
  rw [sourcesM] at hm
  cases c44 : isSg L v 44 with
  | true =>
   rw [if_pos c44] at hm
   have hav := adv_le (L := L) (isSg_lt c44)
   have hlt := (isSg_lt c44).2
   have c2 := psource_d L hL hT (adv v) hav
   have o2 := Ok.sourceM (L := L) (adv v)
   have o2a : v.a + 1 ≤ (sourceM L (adv v)).2.a := o2.1
   have hw := o2.2.1 hav
   generalize (sourceM L (adv v)).2 = w at *
   generalize (sourceM L (adv v)).1 = sr2 at *
   obtain ⟨tb2, sa2, on2⟩ := sr2
   rw [Source.row_mk] at c2
   simp only [tt, seval, tkT, tkF, muT, muF, h3]
   refine CallQ.intro (c2) ?_ ?_ ?_
   ·decide
   ·simp only [tt, seval, PB, h3, told, Val.row, lcC]
   rintro r os ⟨rfl, rfl⟩ hos
   simp only [tt, seval, PB, h3, told, Val.row, lcC]
   refine ⟨by kernel_rfl, ⟨by simp only [maxLen]; omega, by omega⟩, ?_⟩
   refine ⟨[.ren 16 31], by decide, by decide, ?_⟩
   try simp only [tt, seval, h3]
   refine ⟨[(9000, .str (PB L w)), (31, .arr 124 ((l ++ [Source.mk tb2 sa2 on2])).length (((l ++ [Source.mk tb2 sa2 on2])).flatMap Source.row) (some (Fl)))], some Pl, by simp only [Item.row_mk, Source.row_mk, SortKey.row_mk, rW, Val.row, lcC, List.flatMap_append, List.length_append]; exact SubO.cons rfl (SubO.cons rfl (SubO.nil _)), PoSub.refl _, ⟨l ++ [Source.mk tb2 sa2 on2], w, n, Fl, Pl, by simp only [tt, seval, h3, List.length_append, List.length_cons, List.length_nil], hm, hw, by simp; omega, hsb, rfl, rfl⟩, ?_⟩
   show L.length - ((w.a : Int)).toNat < L.length - ((v.a : Int)).toNat
   omega
  | false =>
   rw [if_neg (by rw [c44]; simp)] at hm
   simp only [tt, seval, tkT, tkF, muT, muF, Bool.false_eq_true, h3]
   refine CallQ.intro (ptakeKey_d L hL hT v 4 ⟨#[74, 79, 73, 78]⟩ (by kernel_rfl) hv) ?_ ?_ ?_
   ·decide
   ·simp only [tt, seval, PB, h3]
   rintro r os ⟨rfl, rfl⟩ hos
   simp only [tt, seval, PB, h3]
   cases k4 : isKey L v 4 with
   | true =>
    rw [if_pos k4] at hm
    simp only at hm
    split at hm
    ·cases hm
    rename_i e7 s7 he7
    have hav := adv_le (L := L) (isKey_lt k4)
    have hlt := (isKey_lt k4).2
    have c2 := psource_d L hL hT (adv v) hav
    have o2 := Ok.sourceM (L := L) (adv v)
    have o2a : v.a + 1 ≤ (sourceM L (adv v)).2.a := o2.1
    have hw := o2.2.1 hav
    generalize (sourceM L (adv v)).2 = w at *
    generalize (sourceM L (adv v)).1 = sr2 at *
    obtain ⟨tb2, sa2, on2⟩ := sr2
    rw [Source.row_mk] at c2
    simp only [tt, seval, tkT, tkF, muT, muF, h3]
    refine CallQ.intro (c2) ?_ ?_ ?_
    ·decide
    ·simp only [tt, seval, PB, h3, told, Val.row, lcC]
    rintro r os ⟨rfl, rfl⟩ hos
    simp only [tt, seval, PB, h3, told, Val.row, lcC]
    refine CallQ.intro (pmustKey_d L hL hT w 5 ⟨#[79, 78]⟩ (by kernel_rfl) hw) ?_ ?_ ?_
    ·decide
    ·simp only [tt, seval, PB, h3]
    rintro r os ⟨rfl, rfl⟩ hos
    simp only [tt, seval, PB, h3]
    have o7 : Ok L w (must (isKey L w 5) w) := Ok.must fun h => isKey_lt h
    have o7a := o7.1
    have hw7 := o7.2.1 hw
    generalize must (isKey L w 5) w = w7 at *
    have o8 := ok 1 _ _ _ he7
    have o8a := o8.1
    have hs7 := o8.2.1 hw7
    obtain ⟨k7, p7, n7, x7, q7, m7, ks7, ss7⟩ := e7
    have c7 := hf1 _ _ _ he7 hw7
    rw [Expr.row_mk] at c7
    refine CallQ.intro (c7) ?_ ?_ ?_
    ·decide
    ·simp only [tt, seval, PB, h3, told, Val.row, lcC]
    rintro r os ⟨⟨Fk, Fs, rfl⟩, rfl⟩ hos
    simp only [tt, seval, PB, h3, told, Val.row, lcC]
    refine fun G => ?_
    refine ⟨by kernel_rfl, ⟨by simp only [maxLen]; omega, by omega⟩, ?_⟩
    refine ⟨[], ?_⟩
    try simp only [tt, seval, h3]
    refine ⟨[(9000, .str (PB L s7)), (31, .arr 124 ((l ++ [Source.mk tb2 sa2 [(Expr.mk k7 p7 n7 x7 q7 m7 ks7 ss7)]])).length (((l ++ [Source.mk tb2 sa2 [(Expr.mk k7 p7 n7 x7 q7 m7 ks7 ss7)]])).flatMap Source.row) (some (Fl ++ (G :: (Fk ++ Fs)))))], some (G :: (Pl ++ (Fk ++ Fs))), by simp only [Item.row_mk, Source.row_mk, SortKey.row_mk, rW, Val.row, lcC, List.flatMap_append, List.length_append]; exact SubO.cons rfl (SubO.cons rfl (SubO.nil _)), PoSub.refl _, ⟨l ++ [Source.mk tb2 sa2 [(Expr.mk k7 p7 n7 x7 q7 m7 ks7 ss7)]], s7, n, _, _, by simp only [tt, seval, h3, List.length_append, List.length_cons, List.length_nil], hm, hs7, by simp; omega, fun x => by have := hsb x; simp only [fbC] at this ⊢; omega, rfl, rfl⟩, ?_⟩
    show L.length - ((s7.a : Int)).toNat < L.length - ((v.a : Int)).toNat
    omega
   | false =>
    rw [if_neg (by rw [k4]; simp)] at hm
    injection hm with hm; injection hm with e1 e2; subst e1 e2
    simp only [tt, seval, tkT, tkF, muT, muF, Bool.false_eq_true, h3]
    refine ⟨.c (.ow 124 l.length (l.flatMap Source.row) (some Fl)), [PB L v], ⟨⟨_, rfl⟩, rfl⟩, endOk ?_⟩
    simp only [tt, seval, PB]
    exact hsb
set_option maxHeartbeats 16000000 in
theorem pquery_step (L : List Tok) (hL : L.length ≤ 1048576) (hT : ∀ t ∈ L, t.text.size ≤ 1048576) {f : Nat → PM Expr} (ok : ∀ lv, OkM (L := L) (f lv)) (hf1 : TpE L 42 (f 1)) : TpQ L 54 (stepQ L f) := by
 intro s x s' h ha
 unfold stepQ at h
 simp only at h
 refine cl_of_d follows_mixed true Tryz.func54 rfl (by kernel_rfl) ?_
 simp only [Tryz.f54, tt, seval]
 refine CallQ.intro (pmustKey_d L hL hT s 1 ⟨#[83, 69, 76, 69, 67, 84]⟩ (by kernel_rfl) ha) ?_ ?_ ?_
 ·decide
 ·simp only [tt, seval, PB]
 rintro r os ⟨rfl, rfl⟩ hos
 simp only [tt, seval, PB]
 have o1 : Ok L s (must (isKey L s 1) s) := Ok.must fun h => isKey_lt h
 have ha1 := o1.2.1 ha
 generalize must (isKey L s 1) s = u1 at *
 refine CallQ.intro (ptakeKey_d L hL hT u1 2 ⟨#[68, 73, 83, 84, 73, 78, 67, 84]⟩ (by kernel_rfl) ha1) ?_ ?_ ?_
 ·decide
 ·simp only [tt, seval, PB]
 rintro r os ⟨rfl, rfl⟩ hos
 simp only [tt, seval, PB]
 have o2 : Ok L u1 (tkIf (isKey L u1 2) u1) := Ok.tkIf fun h => isKey_lt h
 have ha2 := o2.2.1 ha1
 generalize tkIf (isKey L u1 2) u1 = u2 at *
 generalize isKey L u1 2 = dist at *
 split at h
 ·cases h
 rename_i its u3 hits
 unfold itemsM at hits
 split at hits
 ·cases hits
 rename_i it1 v1 hit1
 have c1 := pitem_step L hL hT ok hf1 _ _ _ hit1 ha2
 obtain ⟨star1, qual1, ⟨k1, p1, n1, w1, q1, m1, ks1, ss1⟩, as1⟩ := it1
 rw [Item.row_mk, Expr.row_mk] at c1
 have hav1 := (OkM.item ok _ _ _ hit1).2.1 ha2
 refine CallQ.intro (c1) ?_ ?_ ?_
 ·decide
 ·simp only [tt, seval, PB, told, Val.row, lcC]
 rintro r os ⟨⟨F0, F1, rfl⟩, rfl⟩ hos
 simp only [tt, seval, PB, told, Val.row, lcC]
 refine dLoop.gh [.ren 11 20] ⟨by decide, by decide, ?_⟩
 refine dLoop0.intro (fun f' Lo p => ∃ (m : List Item) (v : PS) (n : Nat) (Fm Pl : List (List Nat)), sepM L (itemM L f) n m v = some (its, u3) ∧ v.a ≤ L.length ∧ m.length ≤ v.a + 1 ∧ Sb Fm.flatten Pl.flatten ∧ Lo = [(9000, .str (PB L v)), (3, .str [.v (.bool dist), .s 20 (m).length, .v (.slice none 0 0), .v (.slice none 0 0), .v (.slice none 0 0), .v (.int .i64 (-1))]), (20, .arr 121 (m).length ((m).flatMap Item.row) (some (Fm))), (2, .str [.v (.bool false), .v (.slice none 0 0), .v (.slice none 0 0), .v (.slice none 0 0), .v (.slice none 0 0), .v (.int .i64 0)])] ∧ p = some Pl) (fun _ Lo _ => L.length - atS Lo) [(9000, .str (PB L v1)), (3, .str [.v (.bool dist), .s 20 ([(Item.mk star1 qual1 (Expr.mk k1 p1 n1 w1 q1 m1 ks1 ss1) as1)]).length, .v (.slice none 0 0), .v (.slice none 0 0), .v (.slice none 0 0), .v (.int .i64 (-1))]), (20, .arr 121 ([(Item.mk star1 qual1 (Expr.mk k1 p1 n1 w1 q1 m1 ks1 ss1) as1)]).length (([(Item.mk star1 qual1 (Expr.mk k1 p1 n1 w1 q1 m1 ks1 ss1) as1)]).flatMap Item.row) (some (F0 ++ F1))), (2, .str [.v (.bool false), .v (.slice none 0 0), .v (.slice none 0 0), .v (.slice none 0 0), .v (.slice none 0 0), .v (.int .i64 0)])] (some (F0 ++ F1)) ⟨by simp only [Item.row_mk, Source.row_mk, SortKey.row_mk, rW, Val.row, lcC, List.flatMap_append, List.length_append]; exact SubO.cons rfl (SubO.cons rfl (SubO.cons rfl (SubO.cons rfl (SubO.nil _)))), PoSub.refl _, ?_⟩ ?_
 ·simp only [tt, seval]
  exact ⟨[(Item.mk star1 qual1 (Expr.mk k1 p1 n1 w1 q1 m1 ks1 ss1) as1)], v1, L.length + 1, F0 ++ F1, F0 ++ F1, hits, hav1, by simp, Sb.refl _, rfl, rfl⟩
 ·rintro g' Lo p ⟨m, v, n, Fm, Pl, hm, hv, hml, hsb, rfl, rfl⟩
  try simp only [tt, seval]
  refine CallQ.intro (ptakeSign_d L hL hT v 44 hv) ?_ ?_ ?_
  ·decide
  ·simp only [tt, seval, PB]
  rintro r os ⟨rfl, rfl⟩ hos
  simp only [tt, seval, PB]
  cases n with
  | zero => cases hm
  | succ n =>
  rw [sepM] at hm
  cases c44 : isSg L v 44 with
  | true =>
   rw [if_pos c44] at hm
   split at hm
   ·cases hm
   rename_i z w hz
   have hlt := (isSg_lt c44).2
   have hav := adv_le (L := L) (isSg_lt c44)
   have o3 := OkM.item ok _ _ _ hz
   have o3a : v.a + 1 ≤ w.a := o3.1
   have hw := o3.2.1 hav
   have c2 := pitem_step L hL hT ok hf1 _ _ _ hz hav
   obtain ⟨star2, qual2, ⟨k2, p2, n2, w2, q2, m2, ks2, ss2⟩, as2⟩ := z
   rw [Item.row_mk, Expr.row_mk] at c2
   simp only [tt, seval, tkT, tkF, muT, muF]
   refine dDrawn.intro [18] (.take 0 (.take 2 (.br 1 (.br 3 (.br 4 (.br 5 (.take 6 (.br 7 .done .nobr)) .nobr) .nobr) .nobr) (.br 3 (.take 1 (.br 4 (.br 5 (.take 6 (.br 7 .done .nobr)) .nobr) .nobr)) .nobr)))) (by kernel_rfl) ?_
   simp only [tt, seval]
   all_goals repeat' first | refine brC ?_ ?_ | refine brC2 ?_ ?_
   all_goals
    refine CallQ.intro (c2) ?_ ?_ ?_
    ·decide
    ·simp only [tt, seval, PB, told, Val.row, lcC]
     try decide
    rintro r os ⟨⟨F0, F1, rfl⟩, rfl⟩ hos
    simp only [tt, seval, PB, told, Val.row, lcC]
   all_goals repeat' first | refine brA ?_ ?_ | refine brA2 ?_ ?_ | refine brA3 ?_ ?_
   all_goals
    refine ⟨by kernel_rfl, ⟨by simp only [maxLen]; omega, by omega⟩, ?_⟩
    try simp only [tt, seval]
   all_goals
    refine ⟨[(9000, .str (PB L w)), (3, .str [.v (.bool dist), .s 20 ((m ++ [(Item.mk star2 qual2 (Expr.mk k2 p2 n2 w2 q2 m2 ks2 ss2) as2)])).length, .v (.slice none 0 0), .v (.slice none 0 0), .v (.slice none 0 0), .v (.int .i64 (-1))]), (20, .arr 121 ((m ++ [(Item.mk star2 qual2 (Expr.mk k2 p2 n2 w2 q2 m2 ks2 ss2) as2)])).length (((m ++ [(Item.mk star2 qual2 (Expr.mk k2 p2 n2 w2 q2 m2 ks2 ss2) as2)])).flatMap Item.row) (some (Fm ++ (F0 ++ F1)))), (2, .str [.v (.bool false), .v (.slice none 0 0), .v (.slice none 0 0), .v (.slice none 0 0), .v (.slice none 0 0), .v (.int .i64 0)])], some (Pl ++ (F0 ++ F1)), by simp only [Item.row_mk, Source.row_mk, SortKey.row_mk, rW, Val.row, lcC, List.flatMap_append, List.length_append]; exact SubO.cons rfl (SubO.cons rfl (SubO.cons rfl (SubO.cons rfl (SubO.nil _)))), PoSub.refl _, ⟨m ++ [(Item.mk star2 qual2 (Expr.mk k2 p2 n2 w2 q2 m2 ks2 ss2) as2)], w, n, _, _, hm, hw, by simp; omega, by simp only [List.flatten_append]; exact hsb.append (Sb.refl _), rfl, rfl⟩, ?_⟩
    show L.length - ((w.a : Int)).toNat < L.length - ((v.a : Int)).toNat
    omega
  | false =>
   rw [if_neg (by rw [c44]; simp)] at hm
   injection hm with hm; injection hm with e1 e2; subst e1 e2
   simp only [tt, seval, tkT, tkF, muT, muF, Bool.false_eq_true]
   refine CallQ.intro (pmustKey_d L hL hT v 3 ⟨#[70, 82, 79, 77]⟩ (by kernel_rfl) hv) ?_ ?_ ?_
   ·decide
   ·simp only [tt, seval, PB]
   rintro r os ⟨rfl, rfl⟩ hos
   simp only [tt, seval, PB]
   have o4 : Ok L v (must (isKey L v 3) v) := Ok.must fun h => isKey_lt h
   have ha4 := o4.2.1 hv
   generalize must (isKey L v 3) v = u4 at *
   split at h
   ·cases h
   rename_i frs s4 hfrs
   have cf := psources_step L hL hT ok hf1 u4 _ _ hfrs ha4
   have hs4 := (OkM.sources ok _ _ _ _ _ hfrs).2.1 ((Ok.sourceM (L := L) u4).2.1 ha4)
   refine CallQ.intro (cf) ?_ ?_ ?_
   ·decide
   ·simp only [tt, seval, PB]
   rintro r os ⟨⟨Fr, rfl⟩, rfl⟩ hos
   simp only [tt, seval, PB]
   split at h
   ·cases h
   rename_i wh s5 hwh
   have hs5 := (OkM.wher ok _ _ _ hwh).2.1 hs4
   have cw := pwhere_step L hL hT hf1 _ _ _ hwh hs4
   refine CallQ.intro (cw) ?_ ?_ ?_
   ·decide
   ·simp only [tt, seval, PB]
   rintro r os ⟨⟨Fw, rfl⟩, rfl⟩ hos
   simp only [tt, seval, PB]
   refine CallQ.intro (ptakeKey_d L hL hT s5 7 ⟨#[79, 82, 68, 69, 82]⟩ (by kernel_rfl) hs5) ?_ ?_ ?_
   ·decide
   ·simp only [tt, seval, PB]
   rintro r os ⟨rfl, rfl⟩ hos
   simp only [tt, seval, PB]
   split at h
   ·cases h
   rename_i ord s6 hord
   unfold orderM at hord
   cases c7 : isKey L s5 7 with
   | false =>
    rw [if_neg (by rw [c7]; simp)] at hord
    injection hord with hord; injection hord with e1 e2; subst e1 e2
    simp only [tt, seval, tkT, tkF, muT, muF, Bool.false_eq_true]
    refine CallQ.intro (ptakeKey_d L hL hT s5 11 ⟨#[76, 73, 77, 73, 84]⟩ (by kernel_rfl) hs5) ?_ ?_ ?_
    ·decide
    ·simp only [tt, seval, PB]
    rintro r os ⟨rfl, rfl⟩ hos
    simp only [tt, seval, PB]
    cases c11 : isKey L s5 11 with
    | true =>
     have hlim : limitM L s5 = mNum L (adv s5) := by rw [limitM, if_pos c11]
     rw [hlim] at h
     injection h with h; injection h with h1 h2; subst h1 h2
     simp only [tt, seval, tkT, tkF, muT, muF]
     refine CallQ.intro (pmustNumber_d L hL hT (adv s5) (adv_le (isKey_lt c11))) ?_ ?_ ?_
     ·decide
     ·simp only [tt, seval, PB]
     rintro r os ⟨rfl, rfl⟩ hos
     simp only [tt, seval, PB]
     generalize (mNum L (adv s5)).1 = xn at *
     generalize (mNum L (adv s5)).2 = sn at *
     refine fun G0 G1 G2 => ?_
     refine ⟨.ag (told (Query.mk dist m frs wh ([] : List SortKey) xn).row [G0 :: Fm, G1 :: Fr, G2 :: Fw, []]), [PB L (sn)], ⟨⟨G0 :: Fm, G1 :: Fr, G2 :: Fw, [], by first | rfl | simp only [Item.row_mk, Source.row_mk, SortKey.row_mk, rW, told, Val.row, lcC]⟩, rfl⟩, endOk ?_⟩
     simp only [tt, seval, Item.row_mk, Source.row_mk, SortKey.row_mk, rW, told, Val.row, lcC]
     exact fun x => by have := hsb x; simp only [fbC] at this ⊢; omega
    | false =>
     have hlim : limitM L s5 = (-1, s5) := by rw [limitM, if_neg (by rw [c11]; simp)]
     rw [hlim] at h
     injection h with h; injection h with h1 h2; subst h1 h2
     simp only [tt, seval, tkT, tkF, muT, muF, Bool.false_eq_true]
     refine fun G0 G1 G2 => ?_
     refine ⟨.ag (told (Query.mk dist m frs wh ([] : List SortKey) (-1)).row [G0 :: Fm, G1 :: Fr, G2 :: Fw, []]), [PB L (s5)], ⟨⟨G0 :: Fm, G1 :: Fr, G2 :: Fw, [], by first | rfl | simp only [Item.row_mk, Source.row_mk, SortKey.row_mk, rW, told, Val.row, lcC]⟩, rfl⟩, endOk ?_⟩
     simp only [tt, seval, Item.row_mk, Source.row_mk, SortKey.row_mk, rW, told, Val.row, lcC]
     exact fun x => by have := hsb x; simp only [fbC] at this ⊢; omega
   | true =>
    rw [if_pos c7] at hord
    simp only at hord
    split at hord
    ·cases hord
    rename_i z1 y1 hz1
    simp only [tt, seval, tkT, tkF, muT, muF]
    have hav5 := adv_le (L := L) (isKey_lt c7)
    refine CallQ.intro (pmustKey_d L hL hT (adv s5) 8 ⟨#[66, 89]⟩ (by kernel_rfl) hav5) ?_ ?_ ?_
    ·decide
    ·simp only [tt, seval, PB]
    rintro r os ⟨rfl, rfl⟩ hos
    simp only [tt, seval, PB]
    have o9 : Ok L (adv s5) (must (isKey L (adv s5) 8) (adv s5)) := Ok.must fun h => isKey_lt h
    have hu9 := o9.2.1 hav5
    generalize must (isKey L (adv s5) 8) (adv s5) = u9 at *
    have c9 := pkey_step L hL hT ok hf1 _ _ _ hz1 hu9
    have hy1 := (OkM.sort ok _ _ _ hz1).2.1 hu9
    obtain ⟨⟨k9, p9, n9, x9, q9, m9, ks9, ss9⟩, de9⟩ := z1
    rw [SortKey.row_mk, Expr.row_mk] at c9
    refine CallQ.intro (c9) ?_ ?_ ?_
    ·decide
    ·simp only [tt, seval, PB, told, Val.row, lcC]
    rintro r os ⟨⟨H0, H1, rfl⟩, rfl⟩ hos
    simp only [tt, seval, PB, told, Val.row, lcC]
    refine dLoop.gh [.ren 36 45] ⟨by decide, by decide, ?_⟩
    refine dLoop0.intro (fun f' Lo p => ∃ (l9 : List SortKey) (v9 : PS) (n9' : Nat) (Fo Pl9 : List (List Nat)), sepM L (sortM L f) n9' l9 v9 = some (ord, s6) ∧ v9.a ≤ L.length ∧ l9.length ≤ v9.a + 1 ∧ Sb (Fm ++ (Fr ++ (Fw ++ Fo))).flatten Pl9.flatten ∧ Lo = [(9000, .str (PB L v9)), (3, .str [.v (.bool dist), .s 20 m.length, .s 10025 frs.length, .s 10028 wh.length, .s 45 (l9).length, .v (.int .i64 (-1))]), (20, .arr 121 m.length (m.flatMap Item.row) (some Fm)), (10025, .arr 124 frs.length (frs.flatMap Source.row) (some Fr)), (10028, .arr 29 wh.length (wh.flatMap Expr.row) (some Fw)), (45, .arr 128 (l9).length ((l9).flatMap SortKey.row) (some (Fo))), (2, .str [.v (.bool false), .v (.slice none 0 0), .v (.slice none 0 0), .v (.slice none 0 0), .v (.slice none 0 0), .v (.int .i64 0)])] ∧ p = some Pl9) (fun _ Lo _ => L.length - atS Lo) [(9000, .str (PB L y1)), (3, .str [.v (.bool dist), .s 20 m.length, .s 10025 frs.length, .s 10028 wh.length, .s 45 ([(SortKey.mk (Expr.mk k9 p9 n9 x9 q9 m9 ks9 ss9) de9)]).length, .v (.int .i64 (-1))]), (20, .arr 121 m.length (m.flatMap Item.row) (some Fm)), (10025, .arr 124 frs.length (frs.flatMap Source.row) (some Fr)), (10028, .arr 29 wh.length (wh.flatMap Expr.row) (some Fw)), (45, .arr 128 ([(SortKey.mk (Expr.mk k9 p9 n9 x9 q9 m9 ks9 ss9) de9)]).length (([(SortKey.mk (Expr.mk k9 p9 n9 x9 q9 m9 ks9 ss9) de9)]).flatMap SortKey.row) (some (H0 ++ H1))), (2, .str [.v (.bool false), .v (.slice none 0 0), .v (.slice none 0 0), .v (.slice none 0 0), .v (.slice none 0 0), .v (.int .i64 0)])] (some (Pl ++ Fr ++ Fw ++ (H0 ++ H1))) ⟨by simp only [Item.row_mk, Source.row_mk, SortKey.row_mk, rW, Val.row, lcC, List.flatMap_append, List.length_append]; exact SubO.cons rfl (SubO.cons rfl (SubO.cons rfl (SubO.cons rfl (SubO.cons rfl (SubO.cons rfl (SubO.cons rfl (SubO.nil _))))))), PoSub.refl _, ?_⟩ ?_
    ·simp only [tt, seval]
     exact ⟨[(SortKey.mk (Expr.mk k9 p9 n9 x9 q9 m9 ks9 ss9) de9)], y1, L.length + 1, H0 ++ H1, _, hord, hy1, by simp, fun x => by have := hsb x; simp only [fbC] at this ⊢; omega, rfl, rfl⟩
    ·rintro g3 Lo p ⟨l9, v9, n9', Fo, Pl9, hm9, hv9, hml9, hsb9, rfl, rfl⟩
     try simp only [tt, seval]
     refine CallQ.intro (ptakeSign_d L hL hT v9 44 hv9) ?_ ?_ ?_
     ·decide
     ·simp only [tt, seval, PB]
     rintro r os ⟨rfl, rfl⟩ hos
     simp only [tt, seval, PB]
     cases n9' with
     | zero => cases hm9
     | succ n9' =>
     rw [sepM] at hm9
     cases c44 : isSg L v9 44 with
     | true =>
      rw [if_pos c44] at hm9
      split at hm9
      ·cases hm9
      rename_i za wa hza
      have hlt9 := (isSg_lt c44).2
      have hav9 := adv_le (L := L) (isSg_lt c44)
      have oa := OkM.sort ok _ _ _ hza
      have oaa : v9.a + 1 ≤ wa.a := oa.1
      have hwa := oa.2.1 hav9
      have ca := pkey_step L hL hT ok hf1 _ _ _ hza hav9
      obtain ⟨⟨ka, pa, na, xa, qa, ma, ksa, ssa⟩, dea⟩ := za
      rw [SortKey.row_mk, Expr.row_mk] at ca
      simp only [tt, seval, tkT, tkF, muT, muF]
      refine dDrawn.intro [43] (.take 0 (.take 2 (.br 1 (.br 3 (.br 4 (.br 5 (.take 6 (.br 7 .done .nobr)) .nobr) .nobr) .nobr) (.br 3 (.take 1 (.br 4 (.br 5 (.take 6 (.br 7 .done .nobr)) .nobr) .nobr)) .nobr)))) (by kernel_rfl) ?_
      simp only [tt, seval]
      all_goals repeat' first | refine brC ?_ ?_ | refine brC2 ?_ ?_
      all_goals
       refine CallQ.intro (ca) ?_ ?_ ?_
       ·decide
       ·simp only [tt, seval, PB, told, Val.row, lcC]
        try decide
       rintro r os ⟨⟨F0, F1, rfl⟩, rfl⟩ hos
       simp only [tt, seval, PB, told, Val.row, lcC]
      all_goals repeat' first | refine brA ?_ ?_ | refine brA2 ?_ ?_ | refine brA3 ?_ ?_
      all_goals
       refine ⟨by kernel_rfl, ⟨by simp only [maxLen]; omega, by omega⟩, ?_⟩
       try simp only [tt, seval]
      all_goals
       refine ⟨[(9000, .str (PB L wa)), (3, .str [.v (.bool dist), .s 20 m.length, .s 10025 frs.length, .s 10028 wh.length, .s 45 ((l9 ++ [(SortKey.mk (Expr.mk ka pa na xa qa ma ksa ssa) dea)])).length, .v (.int .i64 (-1))]), (20, .arr 121 m.length (m.flatMap Item.row) (some Fm)), (10025, .arr 124 frs.length (frs.flatMap Source.row) (some Fr)), (10028, .arr 29 wh.length (wh.flatMap Expr.row) (some Fw)), (45, .arr 128 ((l9 ++ [(SortKey.mk (Expr.mk ka pa na xa qa ma ksa ssa) dea)])).length (((l9 ++ [(SortKey.mk (Expr.mk ka pa na xa qa ma ksa ssa) dea)])).flatMap SortKey.row) (some (Fo ++ (F0 ++ F1)))), (2, .str [.v (.bool false), .v (.slice none 0 0), .v (.slice none 0 0), .v (.slice none 0 0), .v (.slice none 0 0), .v (.int .i64 0)])], some (Pl9 ++ (F0 ++ F1)), by simp only [Item.row_mk, Source.row_mk, SortKey.row_mk, rW, Val.row, lcC, List.flatMap_append, List.length_append]; exact SubO.cons rfl (SubO.cons rfl (SubO.cons rfl (SubO.cons rfl (SubO.cons rfl (SubO.cons rfl (SubO.cons rfl (SubO.nil _))))))), PoSub.refl _, ⟨l9 ++ [(SortKey.mk (Expr.mk ka pa na xa qa ma ksa ssa) dea)], wa, n9', _, _, hm9, hwa, by simp; omega, fun x => by have := hsb9 x; simp only [fbC] at this ⊢; omega, rfl, rfl⟩, ?_⟩
       show L.length - ((wa.a : Int)).toNat < L.length - ((v9.a : Int)).toNat
       omega
     | false =>
      rw [if_neg (by rw [c44]; simp)] at hm9
      injection hm9 with hm9; injection hm9 with e1 e2; subst e1 e2
      simp only [tt, seval, tkT, tkF, muT, muF, Bool.false_eq_true]
      refine CallQ.intro (ptakeKey_d L hL hT v9 11 ⟨#[76, 73, 77, 73, 84]⟩ (by kernel_rfl) hv9) ?_ ?_ ?_
      ·decide
      ·simp only [tt, seval, PB]
      rintro r os ⟨rfl, rfl⟩ hos
      simp only [tt, seval, PB]
      cases c11 : isKey L v9 11 with
      | true =>
       have hlim : limitM L v9 = mNum L (adv v9) := by rw [limitM, if_pos c11]
       rw [hlim] at h
       injection h with h; injection h with h1 h2; subst h1 h2
       simp only [tt, seval, tkT, tkF, muT, muF]
       refine CallQ.intro (pmustNumber_d L hL hT (adv v9) (adv_le (isKey_lt c11))) ?_ ?_ ?_
       ·decide
       ·simp only [tt, seval, PB]
       rintro r os ⟨rfl, rfl⟩ hos
       simp only [tt, seval, PB]
       generalize (mNum L (adv v9)).1 = xn at *
       generalize (mNum L (adv v9)).2 = sn at *
       refine fun G0 G1 G2 G3 => ?_
       refine ⟨.ag (told (Query.mk dist m frs wh l9 xn).row [G0 :: Fm, G1 :: Fr, G2 :: Fw, G3 :: Fo]), [PB L (sn)], ⟨⟨G0 :: Fm, G1 :: Fr, G2 :: Fw, G3 :: Fo, by first | rfl | simp only [Item.row_mk, Source.row_mk, SortKey.row_mk, rW, told, Val.row, lcC]⟩, rfl⟩, endOk ?_⟩
       simp only [tt, seval, Item.row_mk, Source.row_mk, SortKey.row_mk, rW, told, Val.row, lcC]
       exact fun x => by have := hsb9 x; simp only [fbC] at this ⊢; omega
      | false =>
       have hlim : limitM L v9 = (-1, v9) := by rw [limitM, if_neg (by rw [c11]; simp)]
       rw [hlim] at h
       injection h with h; injection h with h1 h2; subst h1 h2
       simp only [tt, seval, tkT, tkF, muT, muF, Bool.false_eq_true]
       refine fun G0 G1 G2 G3 => ?_
       refine ⟨.ag (told (Query.mk dist m frs wh l9 (-1)).row [G0 :: Fm, G1 :: Fr, G2 :: Fw, G3 :: Fo]), [PB L (v9)], ⟨⟨G0 :: Fm, G1 :: Fr, G2 :: Fw, G3 :: Fo, by first | rfl | simp only [Item.row_mk, Source.row_mk, SortKey.row_mk, rW, told, Val.row, lcC]⟩, rfl⟩, endOk ?_⟩
       simp only [tt, seval, Item.row_mk, Source.row_mk, SortKey.row_mk, rW, told, Val.row, lcC]
       exact fun x => by have := hsb9 x; simp only [fbC] at this ⊢; omega
theorem implP (L : List Tok) (hL : L.length ≤ 1048576) (hT : ∀ t ∈ L, t.text.size ≤ 1048576) : ∀ k, TpE L 42 ((pP L k).1 1) ∧ TpE L 93 ((pP L k).1 2) ∧ TpE L 160 ((pP L k).1 3) ∧ TpE L 223 ((pP L k).1 4) ∧ TpE L 266 ((pP L k).1 5) ∧ TpE L 303 ((pP L k).1 6) ∧ TpE L 325 ((pP L k).1 7) ∧ TpE L 337 ((pP L k).1 8) ∧ TpE L 348 ((pP L k).1 9) ∧ TpQ L 54 (pP L k).2
 | 0 => ⟨fun _ _ _ h => (by cases h), fun _ _ _ h => (by cases h), fun _ _ _ h => (by cases h), fun _ _ _ h => (by cases h), fun _ _ _ h => (by cases h), fun _ _ _ h => (by cases h), fun _ _ _ h => (by cases h), fun _ _ _ h => (by cases h), fun _ _ _ h => (by cases h), fun _ _ _ h => (by cases h)⟩
 | k + 1 => by
  obtain ⟨h0, h1, h2, h3, h4, h5, h6, h7, h8, hq⟩ := implP L hL hT k
  obtain ⟨ok, okq⟩ := pP_ok (L := L) k
  have e9 : (pP L (k + 1)).1 9 = primM L (pP L k).1 (pP L k).2 := rfl
  refine ⟨?_, ?_, ?_, ?_, ?_, ?_, ?_, ?_, ?_, pquery_step L hL hT ok h0⟩
  ·show TpE L _ (stepE L (pP L k).1 (pP L k).2 1); exact por_step L hL hT (ok 2) h1
  ·show TpE L _ (stepE L (pP L k).1 (pP L k).2 2); exact pand_step L hL hT (ok 3) h2
  ·show TpE L _ (stepE L (pP L k).1 (pP L k).2 3); exact pnot_step L hL hT h2 h3
  ·show TpE L _ (stepE L (pP L k).1 (pP L k).2 4); exact pcmp_step L hL hT ok okq h0 h4 hq
  ·show TpE L _ (stepE L (pP L k).1 (pP L k).2 5); exact pcat_step L hL hT (ok 6) h5
  ·show TpE L _ (stepE L (pP L k).1 (pP L k).2 6); exact psum_step L hL hT (ok 7) h6
  ·show TpE L _ (stepE L (pP L k).1 (pP L k).2 7); exact pprod_step L hL hT (ok 8) h7
  ·show TpE L _ (stepE L (pP L k).1 (pP L k).2 8); exact pneg_step L hL hT h7 h8
  ·rw [e9]; exact pprim_step L hL hT (ok 1) okq h0 hq
theorem por_d (L : List Tok) (hL : L.length ≤ 1048576) (hT : ∀ t ∈ L, t.text.size ≤ 1048576) : TpE L 42 (pExpr L 1) := (implP L hL hT (pD L)).1
theorem iTakeExpr_d (L : List Tok) (hL : L.length ≤ 1048576) (hT : ∀ t ∈ L, t.text.size ≤ 1048576) : Cl Tryz.prog 13 [.c (.sl L.length (L.flatMap Tok.row) none)] [] fun r _ => ∃ Fk Fs, r = .tu [(told (takeE L).1.row [Fk, Fs], false), ([.v (.int .i64 (takeE L).2)], true)] := by
 obtain ⟨x, s1, hx⟩ := pExpr_df (L := L) 1 (by omega) (by omega) s0
 have ha := (pExpr_ok (L := L) 1 _ _ _ hx).2.1 (Nat.zero_le _)
 have c1 := por_d L hL hT _ _ _ hx (Nat.zero_le _)
 have ht : takeE L = takeM L zExpr (some (x, s1)) := by unfold takeE; rw [hx]
 rw [ht]
 obtain ⟨k1, p1, n1, v1, q1, m1, ks1, ss1⟩ := x
 rw [Expr.row_mk] at c1
 refine cl_of_d follows_mixed true Tryz.func13 rfl (by kernel_rfl) ?_
 simp only [Tryz.f13, tt, seval]
 refine CallQ.intro (c1) ?_ ?_ ?_
 ·decide
 ·simp only [tt, seval, PB, s0, told, Val.row, lcC]
 rintro r os ⟨⟨Fk, Fs, rfl⟩, rfl⟩ hos
 simp only [tt, seval, PB, s0, told, Val.row, lcC]
 refine CallQ.intro (pend_d L hL hT s1 ha) ?_ ?_ ?_
 ·decide
 ·simp only [tt, seval, PB]
 rintro r os ⟨rfl, rfl⟩ hos
 simp only [tt, seval, PB]
 refine And.intro (fun hb => ?_) (fun hb => ?_)
 ·have e : takeM L zExpr (some ((Expr.mk k1 p1 n1 v1 q1 m1 ks1 ss1), s1)) = (zExpr, endM L s1) := if_pos hb
  rw [e]
  refine ⟨.tu [(told zExpr.row [[], []], false), ([.v (.int .i64 (endM L s1))], true)], [], ⟨[], [], rfl⟩, endOk ?_⟩
  simp only [tt, seval, rW, told, Val.row, lcC]
  first | done | exact pool_ok fun x => by simp only [fbC]; omega | exact ⟨by omega, Sb.refl _⟩ | exact ⟨by omega, pool_ok fun x => by simp only [fbC]; omega⟩
 ·have e : takeM L zExpr (some ((Expr.mk k1 p1 n1 v1 q1 m1 ks1 ss1), s1)) = ((Expr.mk k1 p1 n1 v1 q1 m1 ks1 ss1), -1) := if_neg (by omega)
  rw [e]
  refine ⟨.tu [(told (Expr.mk k1 p1 n1 v1 q1 m1 ks1 ss1).row [Fk, Fs], false), ([.v (.int .i64 (-1))], true)], [], ⟨Fk, Fs, rfl⟩, endOk ?_⟩
  simp only [tt, seval, rW, told, Val.row, lcC]
  first | done | exact pool_ok fun x => by simp only [fbC]; omega | exact ⟨by omega, Sb.refl _⟩ | exact ⟨by omega, pool_ok fun x => by simp only [fbC]; omega⟩
end Go.Proofs.YteffjmaadkkmeaaGreatDoor
