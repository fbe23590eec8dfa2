/-
  The program's parser.
  Conditions: none.
-/
import Derived.Test.YtijldlppojdehaaGreatDoorDNC
set_option linter.unusedVariables false
set_option linter.unusedSimpArgs false
set_option linter.unusedSectionVars false
set_option maxRecDepth 8000
namespace Go.Proofs.YtijldlppojdehaaGreatDoor
open Go Go.Dv
open Go.Vc (D shrI xorI andI and255)
theorem pis_d (L : List Tok) (hL : L.length ≤ 1048576) (hT : ∀ t ∈ L, t.text.size ≤ 1048576) (s : PS) (k : Nat) (kind : Nat) (x : ByteArray) (hk : k ≤ 100) (ha : s.a ≤ L.length) : Cl Tryz.prog 142 [.c (.p 9000 0), vi k, vi kind, vs x] [PB L s] fun r os => r = vb (isT L s k kind x) ∧ os = [PB L s] := by
 obtain ⟨a, b⟩ := s
 have ha : a ≤ L.length := ha
 have hw : IntKind.i64.wrap ((a : Int) + k) = ((a + k : Nat) : Int) := wrap_id (n := (a : Int) + k) (by omega) (by omega)
 cases b with
 | true =>
  have e : isT L ⟨a, true⟩ k kind x = false := rfl
  rw [e]
  refine cl_of_d follows_mixed false Tryz.func142 rfl (by kernel_rfl) ?_
  simp only [Tryz.f142, tt, seval]
  simp only [tt, seval, PB, hw]
  refine ⟨_, [PB L ⟨a, true⟩], ⟨rfl, rfl⟩, endOk ?_⟩
  simp only [tt, seval, PB]
 | false =>
  refine cl_of_d follows_mixed false Tryz.func142 rfl (by kernel_rfl) ?_
  simp only [Tryz.f142, tt, seval]
  simp only [tt, seval, PB, hw]
  refine fun _ => ?_
  by_cases hlt : a + k < L.length
  ·have h1 : decide (((a + k : Nat) : Int) < (L.length : Int)) = true := decide_eq_true (by omega)
   have hx : L[a + k]? = some L[a + k] := List.getElem?_eq_getElem hlt
   have e : isT L ⟨a, false⟩ k kind x = (decide (L[a + k].kind = kind) && decide (L[a + k].text = x)) := by
    unfold isT tkAt
    simp only [Bool.false_eq_true, if_false, hx]
   have i0 : ((0 : Int) ≤ ((a + k : Nat) : Int)) = True := eq_true (by omega)
   have iL : (((a + k : Nat) : Int) < (L.length : Int)) = True := eq_true (by omega)
   have iT : (a + k < L.length) = True := eq_true hlt
   rw [e]
   generalize L[a + k] = tk at *
   generalize a + k = j at *
   simp only [tt, seval, h1, idxAt hx Tok.row_len, i0, iL, iT, Tok.row]
   cases hk1 : decide (tk.kind = (kind : Int)) with
   | true =>
    simp only [tt, seval, hk1, idxAt hx Tok.row_len, i0, iL, iT, Tok.row]
    trace_state
    refine ⟨_, [PB L ⟨a, false⟩], ⟨rfl, rfl⟩, endOk ?_⟩
    simp only [tt, seval, PB]
   | false =>
    simp only [tt, seval, hk1, idxAt hx Tok.row_len, i0, iL, iT, Tok.row]
    trace_state
    refine ⟨_, [PB L ⟨a, false⟩], ⟨rfl, rfl⟩, endOk ?_⟩
    simp only [tt, seval, PB]
  ·have h1 : decide (((a + k : Nat) : Int) < (L.length : Int)) = false := decide_eq_false (by omega)
   have e : isT L ⟨a, false⟩ k kind x = false := by
    unfold isT tkAt
    simp only [Bool.false_eq_true, if_false, List.getElem?_eq_none_iff.2 (show L.length ≤ a + k by omega)]
   rw [e]
   simp only [tt, seval, h1]
   refine ⟨_, [PB L ⟨a, false⟩], ⟨rfl, rfl⟩, endOk ?_⟩
   simp only [tt, seval, PB]
theorem pisKind_d (L : List Tok) (hL : L.length ≤ 1048576) (hT : ∀ t ∈ L, t.text.size ≤ 1048576) (s : PS) (k : Nat) (ha : s.a ≤ L.length) : Cl Tryz.prog 94 [.c (.p 9000 0), vi k] [PB L s] fun r os => r = vb (isK L s k) ∧ os = [PB L s] := by
 obtain ⟨a, b⟩ := s
 have ha : a ≤ L.length := ha
 cases b with
 | true =>
  have e : isK L ⟨a, true⟩ k = false := rfl
  rw [e]
  refine cl_of_d follows_mixed false Tryz.func94 rfl (by kernel_rfl) ?_
  simp only [Tryz.f94, tt, seval]
  refine dDrawn.intro [] (pln [0, 2, 4, 6, 8, 10, 12, 14, 16, 18, 20, 22, 24, 26, 28, 30, 32, 34, 36, 38, 40, 42, 44, 46, 48, 50, 52, 54, 56, 58, 60, 62, 64, 66, 68, 70, 72, 74, 76, 78, 80, 82, 84, 87, 88, 90]) (by kernel_rfl) ?_
  simp only [tt, seval]
  simp only [tt, seval, PB]
  refine ⟨_, [PB L ⟨a, true⟩], ⟨rfl, rfl⟩, endOk ?_⟩
  simp only [tt, seval, PB]
 | false =>
  refine cl_of_d follows_mixed false Tryz.func94 rfl (by kernel_rfl) ?_
  simp only [Tryz.f94, tt, seval]
  refine dDrawn.intro [] (pln [0, 2, 4, 6, 8, 10, 12, 14, 16, 18, 20, 22, 24, 26, 28, 30, 32, 34, 36, 38, 40, 42, 44, 46, 48, 50, 52, 54, 56, 58, 60, 62, 64, 66, 68, 70, 72, 74, 76, 78, 80, 82, 84, 87, 88, 90]) (by kernel_rfl) ?_
  simp only [tt, seval]
  simp only [tt, seval, PB]
  refine fun _ => ?_
  by_cases hlt : a < L.length
  ·have h1 : decide ((a : Int) < (L.length : Int)) = true := decide_eq_true (by omega)
   have hx : L[a]? = some L[a] := List.getElem?_eq_getElem hlt
   have ht := hT L[a] (List.getElem_mem hlt)
   have e : isK L ⟨a, false⟩ k = (decide (L[a].kind = k) && okTok L[a]) := by
    unfold isK tkAt
    simp only [Bool.false_eq_true, if_false, Nat.add_zero, hx]
   have i0 : ((0 : Int) ≤ (a : Int)) = True := eq_true (by omega)
   have iL : ((a : Int) < (L.length : Int)) = True := eq_true (by omega)
   have iT : (a < L.length) = True := eq_true hlt
   rw [e]
   generalize L[a] = tk at *
   simp only [tt, seval, h1, idxAt hx Tok.row_len, i0, iL, iT, Tok.row]
   cases hk1 : decide (tk.kind = (k : Int)) with
   | true =>
    simp only [tt, seval, hk1, idxAt hx Tok.row_len, i0, iL, iT, Tok.row]
    refine cZ (iTokenOk_d tk ht) (by decide) ?_ ?_ <;> simp only [tt, seval, Tok.row]
    refine ⟨_, [PB L ⟨a, false⟩], ⟨rfl, rfl⟩, endOk ?_⟩
    simp only [tt, seval, PB]
   | false =>
    simp only [tt, seval, hk1]
    refine ⟨_, [PB L ⟨a, false⟩], ⟨rfl, rfl⟩, endOk ?_⟩
    simp only [tt, seval, PB]
  ·have h1 : decide ((a : Int) < (L.length : Int)) = false := decide_eq_false (by omega)
   have e : isK L ⟨a, false⟩ k = false := by
    unfold isK tkAt
    simp only [Bool.false_eq_true, if_false, Nat.add_zero, List.getElem?_eq_none_iff.2 (show L.length ≤ a by omega)]
   rw [e]
   simp only [tt, seval, h1]
   refine ⟨_, [PB L ⟨a, false⟩], ⟨rfl, rfl⟩, endOk ?_⟩
   simp only [tt, seval, PB]
theorem pisSign_d (L : List Tok) (hL : L.length ≤ 1048576) (hT : ∀ t ∈ L, t.text.size ≤ 1048576) (s : PS) (c : UInt8) (ha : s.a ≤ L.length) : Cl Tryz.prog 95 [.c (.p 9000 0), vs ⟨#[c]⟩] [PB L s] fun r os => r = vb (isSg L s c) ∧ os = [PB L s] := by
 rw [show isSg L s c = isT L s 0 5 ⟨#[c]⟩ from rfl]
 refine cl_of_d follows_mixed false Tryz.func95 rfl (by kernel_rfl) ?_
 simp only [Tryz.f95, tt, seval]
 refine cS (pis_d L hL hT s 0 5 ⟨#[c]⟩ (by omega) ha) (by decide) ?_ ?_ <;> simp only [tt, seval, PB]
 refine ⟨_, [PB L s], ⟨rfl, rfl⟩, endOk ?_⟩
 simp only [tt, seval, PB]
theorem ptakeSign_d (L : List Tok) (hL : L.length ≤ 1048576) (hT : ∀ t ∈ L, t.text.size ≤ 1048576) (s : PS) (c : UInt8) (ha : s.a ≤ L.length) : Cl Tryz.prog 57 [.c (.p 9000 0), vs ⟨#[c]⟩] [PB L s] fun r os => r = vb (isSg L s c) ∧ os = [PB L (tkIf (isSg L s c) s)] := by
 refine cl_of_d follows_mixed false Tryz.func57 rfl (by kernel_rfl) ?_
 simp only [Tryz.f57, tt, seval]
 refine cS (pisSign_d L hL hT s c ha) (by decide) ?_ ?_ <;> simp only [tt, seval, PB]
 cases c : isSg L s c with
 | true =>
  have hlt := (isSg_lt c).2
  simp only [tt, seval]
  rw [wrap_id (n := (s.a : Int) + 1) (by omega) (by omega)]
  try simp only [tt, seval]
  refine ⟨_, [PB L (adv s)], ⟨rfl, rfl⟩, endOk ?_⟩
  simp only [tt, seval, PB, adv]
  omega
 | false =>
  simp only [tt, seval, Bool.false_eq_true]
  refine ⟨_, [PB L s], ⟨rfl, rfl⟩, endOk ?_⟩
  simp only [tt, seval, PB]
theorem pmustSign_d (L : List Tok) (hL : L.length ≤ 1048576) (hT : ∀ t ∈ L, t.text.size ≤ 1048576) (s : PS) (c : UInt8) (ha : s.a ≤ L.length) : Cl Tryz.prog 54 [.c (.p 9000 0), vs ⟨#[c]⟩] [PB L s] fun r os => r = .tu [] ∧ os = [PB L (must (isSg L s c) s)] := by
 refine cl_of_d follows_mixed false Tryz.func54 rfl (by kernel_rfl) ?_
 simp only [Tryz.f54, tt, seval]
 refine cS (ptakeSign_d L hL hT s c ha) (by decide) ?_ ?_ <;> simp only [tt, seval, PB]
 cases c : isSg L s c with
 | true =>
  simp only [tt, seval, tkT, muT, Bool.not_true, Bool.false_eq_true]
  refine ⟨_, [PB L (adv s)], ⟨rfl, rfl⟩, endOk ?_⟩
  simp only [tt, seval, PB]
 | false =>
  simp only [tt, seval, tkF, muF, Bool.not_false]
  refine ⟨_, [PB L (fl s)], ⟨rfl, rfl⟩, endOk ?_⟩
  simp only [tt, seval, PB, fl]
theorem pmustKind_d (L : List Tok) (hL : L.length ≤ 1048576) (hT : ∀ t ∈ L, t.text.size ≤ 1048576) (s : PS) (k : Nat) (ha : s.a ≤ L.length) : Cl Tryz.prog 55 [.c (.p 9000 0), vi k] [PB L s] fun r os => r = vs (mText L k s).1 ∧ os = [PB L (mText L k s).2] := by
 refine cl_of_d follows_mixed false Tryz.func55 rfl (by kernel_rfl) ?_
 simp only [Tryz.f55, tt, seval]
 refine cS (pisKind_d L hL hT s k ha) (by decide) ?_ ?_ <;> simp only [tt, seval, PB]
 cases c : isK L s k with
 | true =>
  obtain ⟨hb, hlt⟩ := isK_lt c
  rw [mt_yes c]
  simp only [tt, seval, Bool.not_true, Bool.false_eq_true]
  rw [wrap_id (n := (s.a : Int) + 1) (by omega) (by omega)]
  try simp only [tt, seval]
  refine dDrawn.intro [] (pln [0, 2, 4, 6, 8, 10, 12, 14, 16, 18, 20, 22, 24]) (by kernel_rfl) ?_
  simp only [tt, seval]
  try simp only [tt, seval]
  have e1 : IntKind.i64.wrap ((s.a : Int) + 1 - 1) = s.a := by rw [wrap_id (n := (s.a : Int) + 1 - 1) (by omega) (by omega)]; omega
  have hx : L[s.a]? = some L[s.a] := List.getElem?_eq_getElem hlt
  have e2 : textAt L s = L[s.a].text := by
   unfold textAt tkAt
   rw [hb]
   simp only [Bool.false_eq_true, if_false, Nat.add_zero, hx]
  have i0 : ((0 : Int) ≤ (s.a : Int)) = True := eq_true (by omega)
  have iL : ((s.a : Int) < (L.length : Int)) = True := eq_true (by omega)
  have iT : (s.a < L.length) = True := eq_true hlt
  rw [e2]
  generalize L[s.a] = tk at *
  simp only [tt, seval, e1, idxAt hx Tok.row_len, i0, iL, iT, Tok.row]
  refine ⟨_, [PB L (adv s)], ⟨rfl, rfl⟩, endOk ?_⟩
  simp only [tt, seval, PB, adv]
  omega
 | false =>
  have e : mText L k s = (⟨#[]⟩, fl s) := by rw [mText, if_neg (by rw [c]; simp)]
  rw [e]
  simp only [tt, seval, Bool.not_false]
  refine ⟨vs ⟨#[]⟩, [PB L (fl s)], ⟨rfl, rfl⟩, endOk ?_⟩
  simp only [tt, seval, PB, fl]
end Go.Proofs.YtijldlppojdehaaGreatDoor
