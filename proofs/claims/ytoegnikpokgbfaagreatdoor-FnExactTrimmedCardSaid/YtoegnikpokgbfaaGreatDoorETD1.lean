/-
  The program's parser, first half.
  Conditions: none.
-/
import Derived.Test.YtoegnikpokgbfaaGreatDoorETC1
set_option linter.unusedVariables false
set_option linter.unusedSimpArgs false
set_option linter.unusedSectionVars false
set_option maxRecDepth 8000
namespace Go.Proofs.YtoegnikpokgbfaaGreatDoor
open Go Go.Dv
open Go.Vc (D shrI xorI andI)
theorem pis_d (L : List Tok) (hL : L.length ≤ 1048576) (hT : ∀ t ∈ L, t.text.size ≤ 1048576) (s : PS) (k : Nat) (kind : Nat) (x : ByteArray) (hk : k ≤ 100) (ha : s.a ≤ L.length) : Cl Tryz.prog 222 [.c (.p 9000 0), vi k, vi kind, vs x] [PB L s] fun r os => r = vb (isT L s k kind x) ∧ os = [PB L s] := by
 obtain ⟨a, b⟩ := s
 have ha : a ≤ L.length := ha
 have hw : IntKind.i64.wrap ((a : Int) + k) = ((a + k : Nat) : Int) := wrap_id (n := (a : Int) + k) (by omega) (by omega)
 cases b with
 | true =>
  have e : isT L ⟨a, true⟩ k kind x = false := rfl
  rw [e]
  refine cl_of_d follows_mixed false Tryz.func222 rfl (by kernel_rfl) ?_
  simp only [Tryz.f222, tt, seval]
  simp only [tt, seval, PB, hw]
  refine ⟨_, [PB L ⟨a, true⟩], ⟨rfl, rfl⟩, endOk ?_⟩
  simp only [tt, seval, PB]
 | false =>
  refine cl_of_d follows_mixed false Tryz.func222 rfl (by kernel_rfl) ?_
  simp only [Tryz.f222, tt, seval]
  simp only [tt, seval, PB, hw]
  refine fun _ => ?_
  by_cases hlt : a + k < L.length
  ·have h1 : decide (((a + k : Nat) : Int) < (L.length : Int)) = true := decide_eq_true (by omega)
   have hx : L[a + k]? = some L[a + k] := List.getElem?_eq_getElem hlt
   have e : isT L ⟨a, false⟩ k kind x = (decide (L[a + k].kind = kind) && decide (L[a + k].text = x)) := by
    unfold isT tkAt
    simp only [Bool.false_eq_true, if_false, hx]
   have i0 : ((0 : Int) ≤ ((a + k : Nat) : Int)) = True := eq_true (by omega)
   have iL : (((a + k : Nat) : Int) < (L.length : Int)) = True := eq_true (by omega)
   have iT : (a + k < L.length) = True := eq_true hlt
   rw [e]
   generalize L[a + k] = tk at *
   generalize a + k = j at *
   simp only [tt, seval, idxAt hx Tok.row_len, i0, iL, Tok.row]
   cases hk1 : decide (tk.kind = (kind : Int)) with
   | true =>
    simp only [tt, seval, idxAt hx Tok.row_len, i0, iL, Tok.row]
    trace_state
    refine ⟨_, [PB L ⟨a, false⟩], ⟨rfl, rfl⟩, endOk ?_⟩
    simp only [tt, seval, PB]
   | false =>
    simp only [tt, seval]
    trace_state
    refine ⟨_, [PB L ⟨a, false⟩], ⟨rfl, rfl⟩, endOk ?_⟩
    simp only [tt, seval, PB]
  ·have h1 : decide (((a + k : Nat) : Int) < (L.length : Int)) = false := decide_eq_false (by omega)
   have e : isT L ⟨a, false⟩ k kind x = false := by
    unfold isT tkAt
    simp only [Bool.false_eq_true, if_false, List.getElem?_eq_none_iff.2 (show L.length ≤ a + k by omega)]
   rw [e]
   simp only [tt, seval, h1]
   refine ⟨_, [PB L ⟨a, false⟩], ⟨rfl, rfl⟩, endOk ?_⟩
   simp only [tt, seval, PB]
theorem pisKind_d (L : List Tok) (hL : L.length ≤ 1048576) (hT : ∀ t ∈ L, t.text.size ≤ 1048576) (s : PS) (k : Nat) (ha : s.a ≤ L.length) : Cl Tryz.prog 290 [.c (.p 9000 0), vi k] [PB L s] fun r os => r = vb (isK L s k) ∧ os = [PB L s] := by
 obtain ⟨a, b⟩ := s
 have ha : a ≤ L.length := ha
 cases b with
 | true =>
  have e : isK L ⟨a, true⟩ k = false := rfl
  rw [e]
  refine cl_of_d follows_mixed false Tryz.func290 rfl (by kernel_rfl) ?_
  simp only [Tryz.f290, tt, seval]
  refine dDrawn.intro [] (pln [0, 2, 4, 6, 8, 10, 12, 14, 16, 18, 20, 22, 24, 26, 28, 30, 32, 34, 36, 38, 40, 42, 44, 46, 48, 50, 52, 54, 56, 58, 60, 62, 64, 66, 68, 70, 72, 74, 76, 78, 80, 82, 84, 87, 88, 90]) (by kernel_rfl) ?_
  simp only [tt, seval]
  simp only [tt, seval, PB]
  refine ⟨_, [PB L ⟨a, true⟩], ⟨rfl, rfl⟩, endOk ?_⟩
  simp only [tt, seval, PB]
 | false =>
  refine cl_of_d follows_mixed false Tryz.func290 rfl (by kernel_rfl) ?_
  simp only [Tryz.f290, tt, seval]
  refine dDrawn.intro [] (pln [0, 2, 4, 6, 8, 10, 12, 14, 16, 18, 20, 22, 24, 26, 28, 30, 32, 34, 36, 38, 40, 42, 44, 46, 48, 50, 52, 54, 56, 58, 60, 62, 64, 66, 68, 70, 72, 74, 76, 78, 80, 82, 84, 87, 88, 90]) (by kernel_rfl) ?_
  simp only [tt, seval]
  simp only [tt, seval, PB]
  refine fun _ => ?_
  by_cases hlt : a < L.length
  ·have h1 : decide ((a : Int) < (L.length : Int)) = true := decide_eq_true (by omega)
   have hx : L[a]? = some L[a] := List.getElem?_eq_getElem hlt
   have ht := hT L[a] (List.getElem_mem hlt)
   have e : isK L ⟨a, false⟩ k = (decide (L[a].kind = k) && okTok L[a]) := by
    unfold isK tkAt
    simp only [Bool.false_eq_true, if_false, Nat.add_zero, hx]
   have i0 : ((0 : Int) ≤ (a : Int)) = True := eq_true (by omega)
   have iL : ((a : Int) < (L.length : Int)) = True := eq_true (by omega)
   have iT : (a < L.length) = True := eq_true hlt
   rw [e]
   generalize L[a] = tk at *
   simp only [tt, seval, idxAt hx Tok.row_len, i0, iL, Tok.row]
   cases hk1 : decide (tk.kind = (k : Int)) with
   | true =>
    simp only [tt, seval, idxAt hx Tok.row_len, i0, iL, Tok.row]
    refine cZ (iTokenOk_d tk ht) (by decide) ?_ ?_ <;> simp only [tt, seval, Tok.row]
    refine ⟨_, [PB L ⟨a, false⟩], ⟨rfl, rfl⟩, endOk ?_⟩
    simp only [tt, seval, PB]
   | false =>
    simp only [tt, seval]
    refine ⟨_, [PB L ⟨a, false⟩], ⟨rfl, rfl⟩, endOk ?_⟩
    simp only [tt, seval, PB]
  ·have h1 : decide ((a : Int) < (L.length : Int)) = false := decide_eq_false (by omega)
   have e : isK L ⟨a, false⟩ k = false := by
    unfold isK tkAt
    simp only [Bool.false_eq_true, if_false, Nat.add_zero, List.getElem?_eq_none_iff.2 (show L.length ≤ a by omega)]
   rw [e]
   simp only [tt, seval, h1]
   refine ⟨_, [PB L ⟨a, false⟩], ⟨rfl, rfl⟩, endOk ?_⟩
   simp only [tt, seval, PB]
theorem pisKey_d (L : List Tok) (hL : L.length ≤ 1048576) (hT : ∀ t ∈ L, t.text.size ≤ 1048576) (s : PS) (k : Nat) (w : ByteArray) (hw : w = kw k) (ha : s.a ≤ L.length) : Cl Tryz.prog 239 [.c (.p 9000 0), vs w] [PB L s] fun r os => r = vb (isKey L s k) ∧ os = [PB L s] := by
 subst hw
 rw [show isKey L s k = isT L s 0 1 (kw k) from rfl]
 refine cl_of_d follows_mixed false Tryz.func239 rfl (by kernel_rfl) ?_
 simp only [Tryz.f239, tt, seval]
 refine cS (pis_d L hL hT s 0 1 (kw k) (by omega) ha) (by decide) ?_ ?_ <;> simp only [tt, seval, PB]
 refine ⟨_, [PB L s], ⟨rfl, rfl⟩, endOk ?_⟩
 simp only [tt, seval, PB]
theorem pisSign_d (L : List Tok) (hL : L.length ≤ 1048576) (hT : ∀ t ∈ L, t.text.size ≤ 1048576) (s : PS) (c : UInt8) (ha : s.a ≤ L.length) : Cl Tryz.prog 289 [.c (.p 9000 0), vs ⟨#[c]⟩] [PB L s] fun r os => r = vb (isSg L s c) ∧ os = [PB L s] := by
 rw [show isSg L s c = isT L s 0 5 ⟨#[c]⟩ from rfl]
 refine cl_of_d follows_mixed false Tryz.func289 rfl (by kernel_rfl) ?_
 simp only [Tryz.f289, tt, seval]
 refine cS (pis_d L hL hT s 0 5 ⟨#[c]⟩ (by omega) ha) (by decide) ?_ ?_ <;> simp only [tt, seval, PB]
 refine ⟨_, [PB L s], ⟨rfl, rfl⟩, endOk ?_⟩
 simp only [tt, seval, PB]
theorem ptakeKey_d (L : List Tok) (hL : L.length ≤ 1048576) (hT : ∀ t ∈ L, t.text.size ≤ 1048576) (s : PS) (k : Nat) (w : ByteArray) (hw : w = kw k) (ha : s.a ≤ L.length) : Cl Tryz.prog 223 [.c (.p 9000 0), vs w] [PB L s] fun r os => r = vb (isKey L s k) ∧ os = [PB L (tkIf (isKey L s k) s)] := by
 refine cl_of_d follows_mixed false Tryz.func223 rfl (by kernel_rfl) ?_
 simp only [Tryz.f223, tt, seval]
 refine cS (pisKey_d L hL hT s k w hw ha) (by decide) ?_ ?_ <;> simp only [tt, seval, PB]
 cases c : isKey L s k with
 | true =>
  have hlt := (isKey_lt c).2
  simp only [tt, seval]
  rw [wrap_id (n := (s.a : Int) + 1) (by omega) (by omega)]
  refine ⟨_, [PB L (adv s)], ⟨rfl, rfl⟩, endOk ?_⟩
  simp only [tt, seval, PB, adv]
  omega
 | false =>
  simp only [tt, seval]
  refine ⟨_, [PB L s], ⟨rfl, rfl⟩, endOk ?_⟩
  simp only [tt, seval, PB]
theorem ptakeSign_d (L : List Tok) (hL : L.length ≤ 1048576) (hT : ∀ t ∈ L, t.text.size ≤ 1048576) (s : PS) (c : UInt8) (ha : s.a ≤ L.length) : Cl Tryz.prog 273 [.c (.p 9000 0), vs ⟨#[c]⟩] [PB L s] fun r os => r = vb (isSg L s c) ∧ os = [PB L (tkIf (isSg L s c) s)] := by
 refine cl_of_d follows_mixed false Tryz.func273 rfl (by kernel_rfl) ?_
 simp only [Tryz.f273, tt, seval]
 refine cS (pisSign_d L hL hT s c ha) (by decide) ?_ ?_ <;> simp only [tt, seval, PB]
 cases c : isSg L s c with
 | true =>
  have hlt := (isSg_lt c).2
  simp only [tt, seval]
  rw [wrap_id (n := (s.a : Int) + 1) (by omega) (by omega)]
  refine ⟨_, [PB L (adv s)], ⟨rfl, rfl⟩, endOk ?_⟩
  simp only [tt, seval, PB, adv]
  omega
 | false =>
  simp only [tt, seval]
  refine ⟨_, [PB L s], ⟨rfl, rfl⟩, endOk ?_⟩
  simp only [tt, seval, PB]
theorem pmustKey_d (L : List Tok) (hL : L.length ≤ 1048576) (hT : ∀ t ∈ L, t.text.size ≤ 1048576) (s : PS) (k : Nat) (w : ByteArray) (hw : w = kw k) (ha : s.a ≤ L.length) : Cl Tryz.prog 241 [.c (.p 9000 0), vs w] [PB L s] fun r os => r = .tu [] ∧ os = [PB L (must (isKey L s k) s)] := by
 refine cl_of_d follows_mixed false Tryz.func241 rfl (by kernel_rfl) ?_
 simp only [Tryz.f241, tt, seval]
 refine cS (ptakeKey_d L hL hT s k w hw ha) (by decide) ?_ ?_ <;> simp only [tt, seval, PB]
 cases c : isKey L s k with
 | true =>
  simp only [tt, seval, tkT, muT]
  refine ⟨_, [PB L (adv s)], ⟨rfl, rfl⟩, endOk ?_⟩
  simp only [tt, seval, PB]
 | false =>
  simp only [tt, seval, tkF, muF]
  refine ⟨_, [PB L (fl s)], ⟨rfl, rfl⟩, endOk ?_⟩
  simp only [tt, seval, PB, fl]
theorem pmustSign_d (L : List Tok) (hL : L.length ≤ 1048576) (hT : ∀ t ∈ L, t.text.size ≤ 1048576) (s : PS) (c : UInt8) (ha : s.a ≤ L.length) : Cl Tryz.prog 255 [.c (.p 9000 0), vs ⟨#[c]⟩] [PB L s] fun r os => r = .tu [] ∧ os = [PB L (must (isSg L s c) s)] := by
 refine cl_of_d follows_mixed false Tryz.func255 rfl (by kernel_rfl) ?_
 simp only [Tryz.f255, tt, seval]
 refine cS (ptakeSign_d L hL hT s c ha) (by decide) ?_ ?_ <;> simp only [tt, seval, PB]
 cases c : isSg L s c with
 | true =>
  simp only [tt, seval, tkT, muT]
  refine ⟨_, [PB L (adv s)], ⟨rfl, rfl⟩, endOk ?_⟩
  simp only [tt, seval, PB]
 | false =>
  simp only [tt, seval, tkF, muF]
  refine ⟨_, [PB L (fl s)], ⟨rfl, rfl⟩, endOk ?_⟩
  simp only [tt, seval, PB, fl]
theorem pmustKind_d (L : List Tok) (hL : L.length ≤ 1048576) (hT : ∀ t ∈ L, t.text.size ≤ 1048576) (s : PS) (k : Nat) (ha : s.a ≤ L.length) : Cl Tryz.prog 291 [.c (.p 9000 0), vi k] [PB L s] fun r os => r = vs (mText L k s).1 ∧ os = [PB L (mText L k s).2] := by
 refine cl_of_d follows_mixed false Tryz.func291 rfl (by kernel_rfl) ?_
 simp only [Tryz.f291, tt, seval]
 refine cS (pisKind_d L hL hT s k ha) (by decide) ?_ ?_ <;> simp only [tt, seval, PB]
 cases c : isK L s k with
 | true =>
  obtain ⟨hb, hlt⟩ := isK_lt c
  rw [mt_yes c]
  simp only [tt, seval]
  rw [wrap_id (n := (s.a : Int) + 1) (by omega) (by omega)]
  refine dDrawn.intro [] (pln [0, 2, 4, 6, 8, 10, 12, 14, 16, 18, 20, 22, 24]) (by kernel_rfl) ?_
  simp only [tt, seval]
  have e1 : IntKind.i64.wrap ((s.a : Int) + 1 - 1) = s.a := by rw [wrap_id (n := (s.a : Int) + 1 - 1) (by omega) (by omega)]; omega
  have hx : L[s.a]? = some L[s.a] := List.getElem?_eq_getElem hlt
  have e2 : textAt L s = L[s.a].text := by
   unfold textAt tkAt
   rw [hb]
   simp only [Bool.false_eq_true, if_false, Nat.add_zero, hx]
  have i0 : ((0 : Int) ≤ (s.a : Int)) = True := eq_true (by omega)
  have iL : ((s.a : Int) < (L.length : Int)) = True := eq_true (by omega)
  have iT : (s.a < L.length) = True := eq_true hlt
  rw [e2]
  generalize L[s.a] = tk at *
  simp only [tt, seval, e1, idxAt hx Tok.row_len, i0, iL, Tok.row]
  refine ⟨_, [PB L (adv s)], ⟨rfl, rfl⟩, endOk ?_⟩
  simp only [tt, seval, PB, adv]
  omega
 | false =>
  have e : mText L k s = (⟨#[]⟩, fl s) := by rw [mText, if_neg (by rw [c]; simp)]
  rw [e]
  simp only [tt, seval]
  refine ⟨vs ⟨#[]⟩, [PB L (fl s)], ⟨rfl, rfl⟩, endOk ?_⟩
  simp only [tt, seval, PB, fl]
theorem pmustNumber_d (L : List Tok) (hL : L.length ≤ 1048576) (hT : ∀ t ∈ L, t.text.size ≤ 1048576) (s : PS) (ha : s.a ≤ L.length) : Cl Tryz.prog 278 [.c (.p 9000 0)] [PB L s] fun r os => r = vi (mNum L s).1 ∧ os = [PB L (mNum L s).2] := by
 have hsz : (mText L 3 s).1.size ≤ 1048576 := by
  unfold mText
  split
  ·exact text_small hL hT s
  ·exact Nat.zero_le _
 have e : mNum L s = (numV (mText L 3 s).1, (mText L 3 s).2) := rfl
 rw [e]
 refine cl_of_d follows_mixed false Tryz.func278 rfl (by kernel_rfl) ?_
 simp only [Tryz.f278, tt, seval]
 refine cS (pmustKind_d L hL hT s 3 ha) (by decide) ?_ ?_ <;> simp only [tt, seval, PB]
 generalize (mText L 3 s).1 = x at *
 refine cZ (iNumber_d x hsz) (by decide) ?_ ?_ <;> simp only [tt, seval, numS]
 refine ⟨_, [PB L (mText L 3 s).2], ⟨rfl, rfl⟩, endOk ?_⟩
 simp only [tt, seval, PB]
theorem pend_d (L : List Tok) (hL : L.length ≤ 1048576) (hT : ∀ t ∈ L, t.text.size ≤ 1048576) (s : PS) (ha : s.a ≤ L.length) : Cl Tryz.prog 58 [.c (.p 9000 0)] [PB L s] fun r os => r = vi (endM L s) ∧ os = [PB L s] := by
 refine cl_of_d follows_mixed false Tryz.func58 rfl (by kernel_rfl) ?_
 simp only [Tryz.f58, tt, seval]
 refine dDrawn.intro [] (pln [0, 2, 4, 6, 8, 10, 12, 14, 16, 18, 20, 22, 24, 26, 28, 30]) (by kernel_rfl) ?_
 simp only [tt, seval]
 simp only [tt, seval, PB]
 cases hb : s.b with
 | true =>
  have e : endM L s = s.a := if_neg (by rw [hb]; simp)
  rw [e]
  simp only [tt, seval]
  exact ⟨_, _, ⟨rfl, rfl⟩, endOk (by simp only [tt, seval])⟩
 | false =>
  simp only [tt, seval]
  refine fun _ => And.intro (fun he => ?_) (fun he => ?_)
  ·have e : endM L s = s.a := if_neg (by omega)
   rw [e]
   exact ⟨_, _, ⟨rfl, rfl⟩, endOk (by simp only [tt, seval])⟩
  ·have e : endM L s = -1 := if_pos ⟨hb, by omega⟩
   rw [e]
   exact ⟨_, _, ⟨rfl, rfl⟩, endOk (by simp only [tt, seval])⟩
theorem pas_d (L : List Tok) (hL : L.length ≤ 1048576) (hT : ∀ t ∈ L, t.text.size ≤ 1048576) (s : PS) (ha : s.a ≤ L.length) : Cl Tryz.prog 292 [.c (.p 9000 0)] [PB L s] fun r os => r = vs (asM L s).1 ∧ os = [PB L (asM L s).2] := by
 refine cl_of_d follows_mixed false Tryz.func292 rfl (by kernel_rfl) ?_
 simp only [Tryz.f292, tt, seval]
 refine cS (ptakeKey_d L hL hT s 12 ⟨#[65, 83]⟩ (by kernel_rfl) ha) (by decide) ?_ ?_ <;> simp only [tt, seval, PB]
 cases c : isKey L s 12 with
 | true =>
  have hm : asM L s = mText L 2 (adv s) := by rw [asM, if_pos c]
  rw [hm]
  simp only [tt, seval, tkT]
  refine cS (pmustKind_d L hL hT (adv s) 2 (adv_le (isKey_lt c))) (by decide) ?_ ?_ <;> simp only [tt, seval, PB]
  refine ⟨_, [PB L (mText L 2 (adv s)).2], ⟨rfl, rfl⟩, endOk ?_⟩
  simp only [tt, seval, PB]
 | false =>
  have hm : asM L s = (z0, s) := by rw [asM, if_neg (by rw [c]; simp)]
  rw [hm]
  simp only [tt, seval, tkF]
  refine ⟨vs z0, [PB L s], ⟨rfl, rfl⟩, endOk ?_⟩
  simp only [tt, seval, PB, z0]
def nrow (n : Nat) : List D := [.lit (.int .i64 n)]
theorem nrow_len (n : Nat) : (nrow n).length = 1 := rfl
theorem ptakeOp_d (L : List Tok) (hL : L.length ≤ 1048576) (hT : ∀ t ∈ L, t.text.size ≤ 1048576) (s : PS) (ops : List Nat) (hn : ops.length ≤ 100) (ho : ∀ op ∈ ops, 1 ≤ op ∧ op ≤ 100) (ha : s.a ≤ L.length) : Cl Tryz.prog 188 [.c (.p 9000 0), .c (.sl ops.length (ops.flatMap nrow) none)] [PB L s] fun r os => r = vi (opIn L s ops) ∧ os = [PB L (tkIf (decide (opIn L s ops ≠ 0)) s)] := by
 refine cl_of_d follows_mixed false Tryz.func188 rfl (by kernel_rfl) ?_
 simp only [Tryz.f188, tt, seval]
 refine fun _ => ?_
 refine dLoop.intro (fun f Lo p => ∃ i : Nat, f 10 = vi i ∧ i ≤ ops.length ∧ opIn L s (ops.drop i) = opIn L s ops ∧ Lo = [(9000, .str (PB L s))] ∧ p = none) (fun f _ _ => (ops.length - ixS (f 10)).toNat) [(9000, .str (PB L s))] none ⟨SubO.cons rfl (SubO.nil _), PoSub.none _, ?_⟩ ?_
 ·simp only [tt, seval]
  exact ⟨0, rfl, Nat.zero_le _, rfl⟩
 ·rintro g Lo p ⟨i, h10, hi, hin, rfl, rfl⟩
  simp only [tt, seval] at h10
  simp only [tt, seval, h10, Int.ofNat_lt]
  refine And.intro (fun hlt => ?_) (fun hge => ?_)
  ·have hlt : i < ops.length := by omega
   have hx : ops[i]? = some ops[i] := List.getElem?_eq_getElem hlt
   obtain ⟨ho1, ho2⟩ := ho ops[i] (List.getElem_mem hlt)
   rw [List.drop_eq_getElem_cons hlt, opIn] at hin
   refine ⟨by omega, by omega, _, drop_row nrow_len hx, by rw [nrow]; simp, ?_⟩
   generalize ops[i] = op at *
   simp only [tt, seval, nrow]
   by_cases o1 : op = 1
   ·have d1 : decide ((op : Int) = 1) = true := decide_eq_true (by omega)
    simp only [tt, seval, d1]
    have hk : opHit L s op = isT L s 0 (1 : Nat) (opT op) := by
     unfold opHit
     first | rw [if_pos (by omega)] | rw [if_neg (by omega)]
     rfl
    rw [hk] at hin
    refine cZ (iOpText_d op) (by decide) ?_ ?_ <;> simp only [tt, seval]
    refine cS (pis_d L hL hT s 0 1 (opT op) (by omega) ha) (by decide) ?_ ?_ <;> simp only [tt, seval, PB, h10]
    cases c : isT L s 0 (1 : Nat) (opT op) with
    | true =>
     rw [if_pos c] at hin
     have hlt2 := (isT_lt c).2
     rw [← hin]
     have h0 : decide (op ≠ 0) = true := decide_eq_true (by omega)
     simp only [tt, seval]
     rw [wrap_id (n := (s.a : Int) + 1) (by omega) (by omega)]
     refine ⟨vi op, [PB L (adv s)], ⟨rfl, by rw [h0]; rfl⟩, endOk ?_⟩
     simp only [tt, seval, PB, adv]
     omega
    | false =>
     rw [if_neg (by rw [c]; simp)] at hin
     simp only [tt, seval]
     rw [wrS i (by omega)]
     exact ⟨[(9000, .str (PB L s))], none, SubO.cons rfl (SubO.nil _), PoSub.none _, ⟨i + 1, rfl, by omega, hin, rfl, rfl⟩, by simp only [ixS]; omega⟩
   ·have d1 : decide ((op : Int) = 1) = false := decide_eq_false (by omega)
    by_cases o2 : op = 2
    ·have d2 : decide ((op : Int) = 2) = true := decide_eq_true (by omega)
     simp only [tt, seval, d1, d2]
     have hk : opHit L s op = isT L s 0 (1 : Nat) (opT op) := by
      unfold opHit
      first | rw [if_pos (by omega)] | rw [if_neg (by omega)]
      rfl
     rw [hk] at hin
     refine cZ (iOpText_d op) (by decide) ?_ ?_ <;> simp only [tt, seval]
     refine cS (pis_d L hL hT s 0 1 (opT op) (by omega) ha) (by decide) ?_ ?_ <;> simp only [tt, seval, PB, h10]
     cases c : isT L s 0 (1 : Nat) (opT op) with
     | true =>
      rw [if_pos c] at hin
      have hlt2 := (isT_lt c).2
      rw [← hin]
      have h0 : decide (op ≠ 0) = true := decide_eq_true (by omega)
      simp only [tt, seval]
      rw [wrap_id (n := (s.a : Int) + 1) (by omega) (by omega)]
      refine ⟨vi op, [PB L (adv s)], ⟨rfl, by rw [h0]; rfl⟩, endOk ?_⟩
      simp only [tt, seval, PB, adv]
      omega
     | false =>
      rw [if_neg (by rw [c]; simp)] at hin
      simp only [tt, seval]
      rw [wrS i (by omega)]
      exact ⟨[(9000, .str (PB L s))], none, SubO.cons rfl (SubO.nil _), PoSub.none _, ⟨i + 1, rfl, by omega, hin, rfl, rfl⟩, by simp only [ixS]; omega⟩
    ·have d2 : decide ((op : Int) = 2) = false := decide_eq_false (by omega)
     simp only [tt, seval, d1, d2]
     have hk : opHit L s op = isT L s 0 (5 : Nat) (opT op) := by
      unfold opHit
      first | rw [if_pos (by omega)] | rw [if_neg (by omega)]
      rfl
     rw [hk] at hin
     refine cZ (iOpText_d op) (by decide) ?_ ?_ <;> simp only [tt, seval]
     refine cS (pis_d L hL hT s 0 5 (opT op) (by omega) ha) (by decide) ?_ ?_ <;> simp only [tt, seval, PB, h10]
     cases c : isT L s 0 (5 : Nat) (opT op) with
     | true =>
      rw [if_pos c] at hin
      have hlt2 := (isT_lt c).2
      rw [← hin]
      have h0 : decide (op ≠ 0) = true := decide_eq_true (by omega)
      simp only [tt, seval]
      rw [wrap_id (n := (s.a : Int) + 1) (by omega) (by omega)]
      refine ⟨vi op, [PB L (adv s)], ⟨rfl, by rw [h0]; rfl⟩, endOk ?_⟩
      simp only [tt, seval, PB, adv]
      omega
     | false =>
      rw [if_neg (by rw [c]; simp)] at hin
      simp only [tt, seval]
      rw [wrS i (by omega)]
      exact ⟨[(9000, .str (PB L s))], none, SubO.cons rfl (SubO.nil _), PoSub.none _, ⟨i + 1, rfl, by omega, hin, rfl, rfl⟩, by simp only [ixS]; omega⟩
  ·have : i = ops.length := by omega
   subst this
   rw [List.drop_length] at hin
   have h0 : opIn L s ops = 0 := hin.symm
   rw [h0]
   simp only [tt, seval]
   exact ⟨_, [PB L s], ⟨rfl, rfl⟩, endOk (by simp only [tt, seval, PB])⟩
end Go.Proofs.YtoegnikpokgbfaaGreatDoor
set_option maxRecDepth 8000
namespace Go.Proofs.YtoegnikpokgbfaaGreatDoor
open Go Go.Dv Go.Cv
open Go.Vc (D shrI xorI andI)
theorem pbin_d (op : Nat) (a b : Expr) (Ak As Bk Bs : List (List Nat)) : ClT Tryz.prog 189 [vi op, .ag (told a.row [Ak, As]), .ag (told b.row [Bk, Bs])] [] (Ak ++ (As ++ (Bk ++ Bs))).flatten fun r os => os = [] ∧ ∃ Hk Hs, r = .ag (told (mBin op a b).row [Hk, Hs]) := by
 obtain ⟨k1, p1, n1, v1, q1, m1, ks1, ss1⟩ := a
 obtain ⟨k2, p2, n2, v2, q2, m2, ks2, ss2⟩ := b
 simp only [Expr.row_mk, told]
 refine clT_of_d follows_mixed (some (Ak ++ (As ++ (Bk ++ Bs)))) _ (fun ps h => by injection h with h; subst h; first | rfl | simp) Tryz.func189 rfl (by kernel_rfl) ?_
 simp only [Tryz.f189, tt, seval]
 refine fun G => ⟨_, [], ⟨rfl, G :: (Ak ++ (As ++ (Bk ++ Bs))), [], rfl⟩, endOk ?_⟩
 simp only [tt, seval, bae, mBin, zVal, z0, Expr.row_mk, told]
 first | done | ((try refine ⟨by omega, ?_⟩); exact pool_ok fun x => by (try simp only [List.flatten_append, List.count_append]); omega)
def TpE (L : List Tok) (fn : FuncId) (m : PM Expr) : Prop := ∀ s e s', m s = some (e, s') → s.a ≤ L.length → Cl Tryz.prog fn [.c (.p 9000 0)] [PB L s] fun r os => (∃ Fk Fs, r = .ag (told (e).row [Fk, Fs])) ∧ os = [PB L s']
set_option maxHeartbeats 2000000 in
theorem pchain_step (L : List Tok) (hL : L.length ≤ 1048576) (hT : ∀ t ∈ L, t.text.size ≤ 1048576) {f : PM Expr} (okf : OkM (L := L) f) (g : FuncId) (hg : TpE L g f) (lv : Nat) (hn : (opsL lv).length ≤ 100) (ho : ∀ op ∈ opsL lv, 1 ≤ op ∧ op ≤ 100) (s : PS) (x : Expr) (s' : PS) (h : (match f s with | none => none | some (e, s1) => chainM L f lv (L.length + 1) e s1) = some (x, s')) (ha : s.a ≤ L.length) : Cl Tryz.prog 127 [.c (.p 9000 0), .c (.fn g [9000] []), .c (.sl (opsL lv).length ((opsL lv).flatMap nrow) none)] [PB L s] fun r os => (∃ Fk Fs, r = .ag (told (x).row [Fk, Fs])) ∧ os = [PB L s'] := by
 split at h
 ·cases h
 rename_i e s1 he
 have ha1 := (okf _ _ _ he).2.1 ha
 have c1 := hg _ _ _ he ha
 obtain ⟨k1, p1, n1, v1, q1, m1, ks1, ss1⟩ := e
 rw [Expr.row_mk] at c1
 refine cl_of_d follows_mixed true Tryz.func127 rfl (by kernel_rfl) ?_
 simp only [Tryz.f127, tt, seval]
 refine CallQ.intro (c1) ?_ ?_ ?_
 ·decide
 ·simp only [tt, seval, PB]
 rintro r os ⟨⟨Fk, Fs, rfl⟩, rfl⟩ hos
 simp only [tt, seval, PB, told]
 refine dLoop.gh [] ?_
 refine dLoop0.intro (fun f' Lo p => ∃ (e : Expr) (v : PS) (n : Nat) (Ek Es : List (List Nat)), chainM L f lv n e v = some (x, s') ∧ v.a ≤ L.length ∧ Lo = [(9000, .str (PB L v)), (7, .str (told (e).row [Ek, Es])), (6, .str [.v (.int .i64 0), .v (.int .i64 0), .v (.bool false), .v (.int .i64 0), .v (.int .i64 0), .v (.string ByteArray.empty), .v (.string ByteArray.empty), .v (.string ByteArray.empty), .v (.slice none 0 0), .v (.slice none 0 0)])] ∧ p = some (Ek ++ Es)) (fun _ Lo _ => L.length - atS Lo) [(9000, .str (PB L s1)), (7, .str (told ((Expr.mk k1 p1 n1 v1 q1 m1 ks1 ss1)).row [Fk, Fs])), (6, .str [.v (.int .i64 0), .v (.int .i64 0), .v (.bool false), .v (.int .i64 0), .v (.int .i64 0), .v (.string ByteArray.empty), .v (.string ByteArray.empty), .v (.string ByteArray.empty), .v (.slice none 0 0), .v (.slice none 0 0)])] (some (Fk ++ Fs)) ⟨by rw [Expr.row_mk]; exact SubO.cons rfl (SubO.cons rfl (SubO.cons rfl (SubO.nil _))), PoSub.refl _, ?_⟩ ?_
 ·simp only [tt, seval]
  exact ⟨(Expr.mk k1 p1 n1 v1 q1 m1 ks1 ss1), s1, L.length + 1, Fk, Fs, h, ha1, rfl, rfl⟩
 ·rintro g' Lo p ⟨e, v, n, Ek, Es, hm, hv, rfl, rfl⟩
  obtain ⟨k1, p1, n1, v1, q1, m1, ks1, ss1⟩ := e
  rw [Expr.row_mk]
  simp only [tt, seval, told]
  refine cS (ptakeOp_d L hL hT v (opsL lv) hn ho hv) (by decide) ?_ ?_ <;> simp only [tt, seval, PB]
  cases n with
  | zero => cases hm
  | succ n =>
  rw [chainM] at hm
  have hop0 : opIn L v (opsL lv) = opAt L v lv := rfl
  rw [hop0]
  by_cases hop : opAt L v lv = 0
  ·rw [if_pos hop] at hm
   injection hm with hm; injection hm with h1 h2; subst h1 h2
   have e0 : decide (((opAt L v lv : Nat) : Int) = 0) = true := decide_eq_true (by omega)
   have e1 : decide (¬ opAt L v lv = 0) = false := decide_eq_false (by omega)
   simp only [tt, seval, hop, tkF]
   refine ⟨.ag (told ((Expr.mk k1 p1 n1 v1 q1 m1 ks1 ss1)).row [Ek, Es]), [PB L (v)], ⟨⟨Ek, Es, by first | rfl | simp only [rW, told, Val.row, lc]⟩, rfl⟩, endOk ?_⟩
   simp only [tt, seval, PB, Expr.row_mk, told]
   first | done | ((try refine ⟨by omega, ?_⟩); exact pool_ok fun x => by (try simp only [List.flatten_append, List.count_append]); omega)
  ·rw [if_neg hop] at hm
   split at hm
   ·cases hm
   rename_i z u hz
   have hav := adv_le (L := L) (opAt_lt hop)
   have o3 := okf _ _ _ hz
   have o3a : v.a + 1 ≤ u.a := o3.1
   have hu := o3.2.1 hav
   have hlt := (opAt_lt hop).2
   obtain ⟨k2, p2, n2, v2, q2, m2, ks2, ss2⟩ := z
   have c2 := hg _ _ _ hz hav
   rw [Expr.row_mk] at c2
   have cb := fun Gk Gs => pbin_d (opAt L v lv) (Expr.mk k1 p1 n1 v1 q1 m1 ks1 ss1) (Expr.mk k2 p2 n2 v2 q2 m2 ks2 ss2) Ek Es Gk Gs
   simp only [Expr.row_mk, told] at cb
   have e0 : decide (((opAt L v lv : Nat) : Int) = 0) = false := decide_eq_false (by omega)
   have e0' : (((opAt L v lv : Nat) : Int) = 0) = False := eq_false (by omega)
   have e1 : decide (¬ opAt L v lv = 0) = true := decide_eq_true (by omega)
   simp only [tt, seval, e0', e1, tkT]
   refine dDrawn.intro [20] (.take 0 (.take 2 (.br 1 (.br 3 (.br 4 (.br 5 .done .nobr) .nobr) .nobr) (.br 3 (.take 1 (.br 4 (.br 5 .done .nobr) .nobr)) .nobr)))) (by kernel_rfl) ?_
   simp only [tt, seval]
   all_goals repeat' first | refine brC ?_ ?_ | refine brC2 ?_ ?_
   all_goals
    refine CallQ.intro (c2) ?_ ?_ ?_
    ·decide
    ·simp only [tt, seval, PB]
     decide
    rintro r os ⟨⟨Gk, Gs, rfl⟩, rfl⟩ hos
    simp only [tt, seval, PB, told]
   all_goals repeat' first | refine brC ?_ ?_ | refine brC2 ?_ ?_
   all_goals
    refine callT ([]) (cb Gk Gs) ?_ ?_ ?_ ?_
    ·decide
    ·simp only [tt, seval]
    ·exact fun x => by simp only [List.flatten_append, List.flatten_nil, List.count_append, List.append_nil]; omega
    rintro r os ⟨rfl, Hk, Hs, rfl⟩ hos
    simp only [tt, seval, mBin, Expr.row_mk, told]
   all_goals
    refine ⟨[(9000, .str (PB L u)), (7, .str (told ((mBin (opAt L v lv) (Expr.mk k1 p1 n1 v1 q1 m1 ks1 ss1) (Expr.mk k2 p2 n2 v2 q2 m2 ks2 ss2))).row [Hk, Hs])), (6, .str [.v (.int .i64 0), .v (.int .i64 0), .v (.bool false), .v (.int .i64 0), .v (.int .i64 0), .v (.string ByteArray.empty), .v (.string ByteArray.empty), .v (.string ByteArray.empty), .v (.slice none 0 0), .v (.slice none 0 0)])], some (Hk ++ Hs), by simp only [bae, PB, mBin, zVal, z0, Expr.row_mk, List.flatMap_nil, List.flatMap_cons, List.append_nil, List.length_nil, List.length_cons, told, lc]; exact SubO.cons rfl (SubO.cons rfl (SubO.cons rfl (SubO.nil _))), PoSub.refl _, ⟨_, u, n, Hk, Hs, hm, hu, rfl, rfl⟩, ?_⟩
    show L.length - ((u.a : Int)).toNat < L.length - ((v.a : Int)).toNat
    omega
theorem ops1 : opsL 1 = [1] := rfl
theorem ops2 : opsL 2 = [2] := rfl
theorem ops4 : opsL 4 = [3, 4, 5, 6, 7, 8] := rfl
theorem ops5 : opsL 5 = [9] := rfl
theorem ops6 : opsL 6 = [10, 11] := rfl
theorem ops7 : opsL 7 = [12, 13, 14] := rfl
set_option maxHeartbeats 1000000 in
theorem por_step (L : List Tok) (hL : L.length ≤ 1048576) (hT : ∀ t ∈ L, t.text.size ≤ 1048576) {f : Nat → PM Expr} {q : PM Query} (ok : OkM (L := L) (f 2)) (hg : TpE L 128 (f 2)) : TpE L 57 (stepE L f q 1) := by
 intro s x s' h ha
 have h : (match f 2 s with | none => none | some (e, s1) => chainM L (f 2) 1 (L.length + 1) e s1) = some (x, s') := h
 have c1 := pchain_step L hL hT ok 128 hg 1 (by decide) (by decide) s x s' h ha
 obtain ⟨k1, p1, n1, v1, q1, m1, ks1, ss1⟩ := x
 rw [Expr.row_mk] at c1
 simp only [ops1] at c1
 refine cl_of_d follows_mixed true Tryz.func57 rfl (by kernel_rfl) ?_
 simp only [Tryz.f57, tt, seval]
 refine callF [6] ?_
 simp only [tt, seval, PB]
 refine fun G => ?_
 refine Call1.intro (c1) ?_ ?_ ?_
 ·decide
 ·simp only [tt, seval, PB, nrow]
 rintro r os ⟨⟨Fk, Fs, rfl⟩, rfl⟩ hos
 simp only [tt, seval, PB, nrow, told]
 refine ⟨.ag (told ((Expr.mk k1 p1 n1 v1 q1 m1 ks1 ss1)).row [Fk, Fs]), [PB L (s')], ⟨⟨Fk, Fs, by first | rfl | simp only [rW, told, Val.row, lc]⟩, rfl⟩, endOk ?_⟩
 simp only [tt, seval, PB, Expr.row_mk, told]
 first | done | ((try refine ⟨by omega, ?_⟩); exact pool_ok fun x => by (try simp only [List.flatten_append, List.count_append]); omega)
set_option maxHeartbeats 1000000 in
theorem pand_step (L : List Tok) (hL : L.length ≤ 1048576) (hT : ∀ t ∈ L, t.text.size ≤ 1048576) {f : Nat → PM Expr} {q : PM Query} (ok : OkM (L := L) (f 3)) (hg : TpE L 190 (f 3)) : TpE L 128 (stepE L f q 2) := by
 intro s x s' h ha
 have h : (match f 3 s with | none => none | some (e, s1) => chainM L (f 3) 2 (L.length + 1) e s1) = some (x, s') := h
 have c1 := pchain_step L hL hT ok 190 hg 2 (by decide) (by decide) s x s' h ha
 obtain ⟨k1, p1, n1, v1, q1, m1, ks1, ss1⟩ := x
 rw [Expr.row_mk] at c1
 simp only [ops2] at c1
 refine cl_of_d follows_mixed true Tryz.func128 rfl (by kernel_rfl) ?_
 simp only [Tryz.f128, tt, seval]
 refine callF [6] ?_
 simp only [tt, seval, PB]
 refine fun G => ?_
 refine Call1.intro (c1) ?_ ?_ ?_
 ·decide
 ·simp only [tt, seval, PB, nrow]
 rintro r os ⟨⟨Fk, Fs, rfl⟩, rfl⟩ hos
 simp only [tt, seval, PB, nrow, told]
 refine ⟨.ag (told ((Expr.mk k1 p1 n1 v1 q1 m1 ks1 ss1)).row [Fk, Fs]), [PB L (s')], ⟨⟨Fk, Fs, by first | rfl | simp only [rW, told, Val.row, lc]⟩, rfl⟩, endOk ?_⟩
 simp only [tt, seval, PB, Expr.row_mk, told]
 first | done | ((try refine ⟨by omega, ?_⟩); exact pool_ok fun x => by (try simp only [List.flatten_append, List.count_append]); omega)
set_option maxHeartbeats 1000000 in
theorem pcat_step (L : List Tok) (hL : L.length ≤ 1048576) (hT : ∀ t ∈ L, t.text.size ≤ 1048576) {f : Nat → PM Expr} {q : PM Query} (ok : OkM (L := L) (f 6)) (hg : TpE L 254 (f 6)) : TpE L 240 (stepE L f q 5) := by
 intro s x s' h ha
 have h : (match f 6 s with | none => none | some (e, s1) => chainM L (f 6) 5 (L.length + 1) e s1) = some (x, s') := h
 have c1 := pchain_step L hL hT ok 254 hg 5 (by decide) (by decide) s x s' h ha
 obtain ⟨k1, p1, n1, v1, q1, m1, ks1, ss1⟩ := x
 rw [Expr.row_mk] at c1
 simp only [ops5] at c1
 refine cl_of_d follows_mixed true Tryz.func240 rfl (by kernel_rfl) ?_
 simp only [Tryz.f240, tt, seval]
 refine callF [6] ?_
 simp only [tt, seval, PB]
 refine fun G => ?_
 refine Call1.intro (c1) ?_ ?_ ?_
 ·decide
 ·simp only [tt, seval, PB, nrow]
 rintro r os ⟨⟨Fk, Fs, rfl⟩, rfl⟩ hos
 simp only [tt, seval, PB, nrow, told]
 refine ⟨.ag (told ((Expr.mk k1 p1 n1 v1 q1 m1 ks1 ss1)).row [Fk, Fs]), [PB L (s')], ⟨⟨Fk, Fs, by first | rfl | simp only [rW, told, Val.row, lc]⟩, rfl⟩, endOk ?_⟩
 simp only [tt, seval, PB, Expr.row_mk, told]
 first | done | ((try refine ⟨by omega, ?_⟩); exact pool_ok fun x => by (try simp only [List.flatten_append, List.count_append]); omega)
set_option maxHeartbeats 1000000 in
theorem psum_step (L : List Tok) (hL : L.length ≤ 1048576) (hT : ∀ t ∈ L, t.text.size ≤ 1048576) {f : Nat → PM Expr} {q : PM Query} (ok : OkM (L := L) (f 7)) (hg : TpE L 272 (f 7)) : TpE L 254 (stepE L f q 6) := by
 intro s x s' h ha
 have h : (match f 7 s with | none => none | some (e, s1) => chainM L (f 7) 6 (L.length + 1) e s1) = some (x, s') := h
 have c1 := pchain_step L hL hT ok 272 hg 6 (by decide) (by decide) s x s' h ha
 obtain ⟨k1, p1, n1, v1, q1, m1, ks1, ss1⟩ := x
 rw [Expr.row_mk] at c1
 simp only [ops6] at c1
 refine cl_of_d follows_mixed true Tryz.func254 rfl (by kernel_rfl) ?_
 simp only [Tryz.f254, tt, seval]
 refine callF [6] ?_
 simp only [tt, seval, PB]
 refine fun G => ?_
 refine Call1.intro (c1) ?_ ?_ ?_
 ·decide
 ·simp only [tt, seval, PB, nrow]
 rintro r os ⟨⟨Fk, Fs, rfl⟩, rfl⟩ hos
 simp only [tt, seval, PB, nrow, told]
 refine ⟨.ag (told ((Expr.mk k1 p1 n1 v1 q1 m1 ks1 ss1)).row [Fk, Fs]), [PB L (s')], ⟨⟨Fk, Fs, by first | rfl | simp only [rW, told, Val.row, lc]⟩, rfl⟩, endOk ?_⟩
 simp only [tt, seval, PB, Expr.row_mk, told]
 first | done | ((try refine ⟨by omega, ?_⟩); exact pool_ok fun x => by (try simp only [List.flatten_append, List.count_append]); omega)
set_option maxHeartbeats 1000000 in
theorem pprod_step (L : List Tok) (hL : L.length ≤ 1048576) (hT : ∀ t ∈ L, t.text.size ≤ 1048576) {f : Nat → PM Expr} {q : PM Query} (ok : OkM (L := L) (f 8)) (hg : TpE L 288 (f 8)) : TpE L 272 (stepE L f q 7) := by
 intro s x s' h ha
 have h : (match f 8 s with | none => none | some (e, s1) => chainM L (f 8) 7 (L.length + 1) e s1) = some (x, s') := h
 have c1 := pchain_step L hL hT ok 288 hg 7 (by decide) (by decide) s x s' h ha
 obtain ⟨k1, p1, n1, v1, q1, m1, ks1, ss1⟩ := x
 rw [Expr.row_mk] at c1
 simp only [ops7] at c1
 refine cl_of_d follows_mixed true Tryz.func272 rfl (by kernel_rfl) ?_
 simp only [Tryz.f272, tt, seval]
 refine callF [6] ?_
 simp only [tt, seval, PB]
 refine fun G => ?_
 refine Call1.intro (c1) ?_ ?_ ?_
 ·decide
 ·simp only [tt, seval, PB, nrow]
 rintro r os ⟨⟨Fk, Fs, rfl⟩, rfl⟩ hos
 simp only [tt, seval, PB, nrow, told]
 refine ⟨.ag (told ((Expr.mk k1 p1 n1 v1 q1 m1 ks1 ss1)).row [Fk, Fs]), [PB L (s')], ⟨⟨Fk, Fs, by first | rfl | simp only [rW, told, Val.row, lc]⟩, rfl⟩, endOk ?_⟩
 simp only [tt, seval, PB, Expr.row_mk, told]
 first | done | ((try refine ⟨by omega, ?_⟩); exact pool_ok fun x => by (try simp only [List.flatten_append, List.count_append]); omega)
set_option maxHeartbeats 1000000 in
theorem pnot_step (L : List Tok) (hL : L.length ≤ 1048576) (hT : ∀ t ∈ L, t.text.size ≤ 1048576) {f : Nat → PM Expr} {q : PM Query} (hs : TpE L 190 (f 3)) (hg : TpE L 224 (f 4)) : TpE L 190 (stepE L f q 3) := by
 intro s x s' h ha
 have h : (if isKey L s 15 = true then (match f 3 (adv s) with | none => none | some (e, s1) => some (mUn 15 e, s1)) else f 4 s) = some (x, s') := h
 refine cl_of_d follows_mixed true Tryz.func190 rfl (by kernel_rfl) ?_
 simp only [Tryz.f190, tt, seval]
 refine cS (ptakeKey_d L hL hT s 15 ⟨#[78, 79, 84]⟩ (by kernel_rfl) ha) (by decide) ?_ ?_ <;> simp only [tt, seval, PB]
 cases c : isKey L s 15 with
 | true =>
  rw [if_pos c] at h
  split at h
  ·cases h
  rename_i e s1 he
  injection h with h; injection h with h1 h2; subst h1 h2
  obtain ⟨k1, p1, n1, v1, q1, m1, ks1, ss1⟩ := e
  have c1 := hs _ _ _ he (adv_le (isKey_lt c))
  rw [Expr.row_mk] at c1
  simp only [tt, seval, tkT]
  refine CallQ.intro (c1) ?_ ?_ ?_
  ·decide
  ·simp only [tt, seval, PB]
  rintro r os ⟨⟨Fk, Fs, rfl⟩, rfl⟩ hos
  simp only [tt, seval, PB, told]
  refine fun G => ?_
  refine ⟨.ag (told (mUn 15 (Expr.mk k1 p1 n1 v1 q1 m1 ks1 ss1)).row [G :: (Fk ++ Fs), []]), [PB L s1], ⟨⟨_, _, rfl⟩, rfl⟩, endOk ?_⟩
  simp only [tt, seval, bae, PB, mUn, zVal, z0, Expr.row_mk, told]
  first | done | ((try refine ⟨by omega, ?_⟩); exact pool_ok fun x => by (try simp only [List.flatten_append, List.count_append]); omega)
 | false =>
  rw [if_neg (by rw [c]; simp)] at h
  obtain ⟨k1, p1, n1, v1, q1, m1, ks1, ss1⟩ := x
  have c1 := hg _ _ _ h ha
  rw [Expr.row_mk] at c1
  simp only [tt, seval, tkF]
  refine CallQ.intro (c1) ?_ ?_ ?_
  ·decide
  ·simp only [tt, seval, PB]
  rintro r os ⟨⟨Fk, Fs, rfl⟩, rfl⟩ hos
  simp only [tt, seval, PB, told]
  refine ⟨.ag (told ((Expr.mk k1 p1 n1 v1 q1 m1 ks1 ss1)).row [Fk, Fs]), [PB L (s')], ⟨⟨Fk, Fs, by first | rfl | simp only [rW, told, Val.row, lc]⟩, rfl⟩, endOk ?_⟩
  simp only [tt, seval, PB, Expr.row_mk, told]
  first | done | ((try refine ⟨by omega, ?_⟩); exact pool_ok fun x => by (try simp only [List.flatten_append, List.count_append]); omega)
set_option maxHeartbeats 1000000 in
theorem pneg_step (L : List Tok) (hL : L.length ≤ 1048576) (hT : ∀ t ∈ L, t.text.size ≤ 1048576) {f : Nat → PM Expr} {q : PM Query} (hs : TpE L 288 (f 8)) (hg : TpE L 299 (f 9)) : TpE L 288 (stepE L f q 8) := by
 intro s x s' h ha
 have h : (if isSg L s 45 = true then (match f 8 (adv s) with | none => none | some (e, s1) => some (mUn 16 e, s1)) else f 9 s) = some (x, s') := h
 refine cl_of_d follows_mixed true Tryz.func288 rfl (by kernel_rfl) ?_
 simp only [Tryz.f288, tt, seval]
 refine cS (ptakeSign_d L hL hT s 45 ha) (by decide) ?_ ?_ <;> simp only [tt, seval, PB]
 cases c : isSg L s 45 with
 | true =>
  rw [if_pos c] at h
  split at h
  ·cases h
  rename_i e s1 he
  injection h with h; injection h with h1 h2; subst h1 h2
  obtain ⟨k1, p1, n1, v1, q1, m1, ks1, ss1⟩ := e
  have c1 := hs _ _ _ he (adv_le (isSg_lt c))
  rw [Expr.row_mk] at c1
  simp only [tt, seval, tkT]
  refine CallQ.intro (c1) ?_ ?_ ?_
  ·decide
  ·simp only [tt, seval, PB]
  rintro r os ⟨⟨Fk, Fs, rfl⟩, rfl⟩ hos
  simp only [tt, seval, PB, told]
  refine fun G => ?_
  refine ⟨.ag (told (mUn 16 (Expr.mk k1 p1 n1 v1 q1 m1 ks1 ss1)).row [G :: (Fk ++ Fs), []]), [PB L s1], ⟨⟨_, _, rfl⟩, rfl⟩, endOk ?_⟩
  simp only [tt, seval, bae, PB, mUn, zVal, z0, Expr.row_mk, told]
  first | done | ((try refine ⟨by omega, ?_⟩); exact pool_ok fun x => by (try simp only [List.flatten_append, List.count_append]); omega)
 | false =>
  rw [if_neg (by rw [c]; simp)] at h
  obtain ⟨k1, p1, n1, v1, q1, m1, ks1, ss1⟩ := x
  have c1 := hg _ _ _ h ha
  rw [Expr.row_mk] at c1
  simp only [tt, seval, tkF]
  refine CallQ.intro (c1) ?_ ?_ ?_
  ·decide
  ·simp only [tt, seval, PB]
  rintro r os ⟨⟨Fk, Fs, rfl⟩, rfl⟩ hos
  simp only [tt, seval, PB, told]
  refine ⟨.ag (told ((Expr.mk k1 p1 n1 v1 q1 m1 ks1 ss1)).row [Fk, Fs]), [PB L (s')], ⟨⟨Fk, Fs, by first | rfl | simp only [rW, told, Val.row, lc]⟩, rfl⟩, endOk ?_⟩
  simp only [tt, seval, PB, Expr.row_mk, told]
  first | done | ((try refine ⟨by omega, ?_⟩); exact pool_ok fun x => by (try simp only [List.flatten_append, List.count_append]); omega)
def TpQ (L : List Tok) (fn : FuncId) (m : PM Query) : Prop := ∀ s e s', m s = some (e, s') → s.a ≤ L.length → Cl Tryz.prog fn [.c (.p 9000 0)] [PB L s] fun r os => (∃ Fi Ff Fw Fo, r = .ag (told (e).row [Fi, Ff, Fw, Fo])) ∧ os = [PB L s']
theorem plit_d (v : Val) : Cl Tryz.prog 304 [.ag (csOf v.row)] [] fun r _ => r = .ag (told (mLit v).row [[], []]) := by
 refine cl_of_d follows_mixed false Tryz.func304 rfl (by kernel_rfl) ?_
 simp only [Tryz.f304, tt, seval]
 simp only [tt, seval, Val.row]
 refine ⟨.ag (told (mLit v).row [[], []]), [], rfl, endOk ?_⟩
 simp only [tt, seval, bae, mLit, z0, Expr.row_mk, told]
set_option maxHeartbeats 2000000 in
theorem pors_step (L : List Tok) (hL : L.length ≤ 1048576) (hT : ∀ t ∈ L, t.text.size ≤ 1048576) {f : Nat → PM Expr} (ok : OkM (L := L) (f 1)) (hg : TpE L 57 (f 1)) (s : PS) (x : List Expr) (s' : PS) (h : orsM L f s = some (x, s')) (ha : s.a ≤ L.length) : Cl Tryz.prog 257 [.c (.p 9000 0)] [PB L s] fun r os => (x.length ≤ 1048580 ∧ ∃ F, r = .c (.ow 29 x.length (x.flatMap Expr.row) (some F))) ∧ os = [PB L s'] := by
 unfold orsM at h
 split at h
 ·cases h
 rename_i e s1 he
 have ha1 := (ok _ _ _ he).2.1 ha
 have c1 := hg _ _ _ he ha
 obtain ⟨k1, p1, n1, v1, q1, m1, ks1, ss1⟩ := e
 rw [Expr.row_mk] at c1
 refine cl_of_d follows_mixed true Tryz.func257 rfl (by kernel_rfl) ?_
 simp only [Tryz.f257, tt, seval]
 refine CallQ.intro (c1) ?_ ?_ ?_
 ·decide
 ·simp only [tt, seval, PB]
 rintro r os ⟨⟨Fk, Fs, rfl⟩, rfl⟩ hos
 simp only [tt, seval, PB, told]
 refine dLoop.gh [.ren 6 13] ⟨by decide, by decide, ?_⟩
 refine dLoop0.intro (fun f' Lo p => ∃ (l : List Expr) (v : PS) (n : Nat) (Fl Pl : List (List Nat)), f' 3 = .c (.s 13 l.length) ∧ sepM L (f 1) n l v = some (x, s') ∧ v.a ≤ L.length ∧ l.length ≤ v.a + 1 ∧ Sb Fl.flatten Pl.flatten ∧ Lo = [(9000, .str (PB L v)), (13, .arr 29 (l).length ((l).flatMap Expr.row) (some (Fl)))] ∧ p = some Pl) (fun _ Lo _ => L.length - atS Lo) [(9000, .str (PB L s1)), (13, .arr 29 ([(Expr.mk k1 p1 n1 v1 q1 m1 ks1 ss1)]).length (([(Expr.mk k1 p1 n1 v1 q1 m1 ks1 ss1)]).flatMap Expr.row) (some (Fk ++ Fs)))] (some (Fk ++ Fs)) ⟨by simp only [PB, Expr.row_mk, List.flatMap_nil, List.flatMap_cons, List.append_nil, List.length_nil, List.length_cons]; exact SubO.cons rfl (SubO.cons rfl (SubO.nil _)), PoSub.refl _, ?_⟩ ?_
 ·simp only [tt, seval]
  exact ⟨[(Expr.mk k1 p1 n1 v1 q1 m1 ks1 ss1)], s1, L.length + 1, Fk ++ Fs, Fk ++ Fs, rfl, h, ha1, by simp, Sb.refl _, rfl, rfl⟩
 ·rintro g' Lo p ⟨l, v, n, Fl, Pl, h3, hm, hv, hml, hsb, rfl, rfl⟩
  simp only [tt, seval] at h3
  simp only [tt, seval]
  refine cS (ptakeSign_d L hL hT v 44 hv) (by decide) ?_ ?_ <;> simp only [tt, seval, PB, h3]
  cases n with
  | zero => cases hm
  | succ n =>
  rw [sepM] at hm
  cases c44 : isSg L v 44 with
  | true =>
   rw [if_pos c44] at hm
   split at hm
   ·cases hm
   rename_i z u hz
   have hav := adv_le (L := L) (isSg_lt c44)
   have o3 := ok _ _ _ hz
   have o3a : v.a + 1 ≤ u.a := o3.1
   have hu := o3.2.1 hav
   have hlt := (isSg_lt c44).2
   obtain ⟨k2, p2, n2, v2, q2, m2, ks2, ss2⟩ := z
   have c2 := hg _ _ _ hz hav
   rw [Expr.row_mk] at c2
   simp only [tt, seval, tkT]
   refine CallQ.intro (c2) ?_ ?_ ?_
   ·decide
   ·simp only [tt, seval, PB]
   rintro r os ⟨⟨Gk, Gs, rfl⟩, rfl⟩ hos
   simp only [tt, seval, PB, told]
   refine ⟨by kernel_rfl, ⟨by simp only [maxLen]; omega, by omega⟩, ?_⟩
   refine ⟨[(9000, .str (PB L u)), (13, .arr 29 ((l ++ [(Expr.mk k2 p2 n2 v2 q2 m2 ks2 ss2)])).length (((l ++ [(Expr.mk k2 p2 n2 v2 q2 m2 ks2 ss2)])).flatMap Expr.row) (some (Fl ++ (Gk ++ Gs))))], some (Pl ++ (Gk ++ Gs)), by simp only [PB, Expr.row_mk, List.flatMap_nil, List.flatMap_cons, List.append_nil, List.length_nil, List.length_cons, List.flatMap_append, List.length_append]; exact SubO.cons rfl (SubO.cons rfl (SubO.nil _)), PoSub.refl _, ⟨l ++ [(Expr.mk k2 p2 n2 v2 q2 m2 ks2 ss2)], u, n, _, _, by simp, hm, hu, by simp; omega, by simp only [List.flatten_append]; exact hsb.append (Sb.refl _), rfl, rfl⟩, ?_⟩
   show L.length - ((u.a : Int)).toNat < L.length - ((v.a : Int)).toNat
   omega
  | false =>
   rw [if_neg (by rw [c44]; simp)] at hm
   injection hm with hm; injection hm with e1 e2; subst e1 e2
   simp only [tt, seval, tkF]
   refine ⟨.c (.ow 29 l.length (l.flatMap Expr.row) (some Fl)), [PB L v], ⟨⟨by omega, Fl, rfl⟩, rfl⟩, endOk ?_⟩
   simp only [tt, seval, PB]
   exact hsb
set_option maxHeartbeats 4000000 in
theorem pin_step (L : List Tok) (hL : L.length ≤ 1048576) (hT : ∀ t ∈ L, t.text.size ≤ 1048576) {f : Nat → PM Expr} {q : PM Query} (ok : ∀ lv, OkM (L := L) (f lv)) (okq : OkM (L := L) q) (hor : TpE L 57 (f 1)) (hq : TpQ L 256 q) (e : Expr) (not : Bool) (Ek Es : List (List Nat)) (s : PS) (x : Expr) (s' : PS) (h : inM L f q e not s = some (x, s')) (ha : s.a ≤ L.length) : ClT Tryz.prog 242 [.c (.p 9000 0), .ag (told e.row [Ek, Es]), vb not] [PB L s] (Ek ++ Es).flatten fun r os => (∃ Hk Hs, r = .ag (told x.row [Hk, Hs])) ∧ os = [PB L s'] := by
 obtain ⟨k1, p1, n1, v1, q1, m1, ks1, ss1⟩ := e
 unfold inM at h
 simp only at h
 simp only [Expr.row_mk, told]
 refine clT_of_d follows_mixed (some (Ek ++ Es)) _ (fun ps h => by injection h with h; subst h; first | rfl | simp) Tryz.func242 rfl (by kernel_rfl) ?_
 simp only [Tryz.f242, tt, seval]
 refine cS (pmustSign_d L hL hT s 40 ha) (by decide) ?_ ?_ <;> simp only [tt, seval, PB]
 have o1 : Ok L s (must (isSg L s 40) s) := Ok.must fun h => isSg_lt h
 have ha1 := o1.2.1 ha
 generalize must (isSg L s 40) s = u at *
 refine cS (pisKey_d L hL hT u 1 ⟨#[83, 69, 76, 69, 67, 84]⟩ (by kernel_rfl) ha1) (by decide) ?_ ?_ <;> simp only [tt, seval, PB]
 cases c1 : isKey L u 1 with
 | true =>
  rw [if_pos c1] at h
  split at h
  ·cases h
  rename_i y t hy
  injection h with h; injection h with h1 h2; subst h1 h2
  have ht := (okq _ _ _ hy).2.1 ha1
  obtain ⟨d, its, frs, whs, ods, lim⟩ := y
  have cq := hq _ _ _ hy ha1
  rw [Query.row_mk] at cq
  simp only [tt, seval]
  refine CallQ.intro (cq) ?_ ?_ ?_
  ·decide
  ·simp only [tt, seval, PB]
  rintro r os ⟨⟨Fi, Ff, Fw, Fo, rfl⟩, rfl⟩ hos
  simp only [tt, seval, PB, told]
  refine cS (pmustSign_d L hL hT t 41 ht) (by decide) ?_ ?_ <;> simp only [tt, seval, PB]
  refine fun G0 => ?_
  refine fun G1 => ?_
  refine ⟨.ag (told (mKids 8 not [(Expr.mk k1 p1 n1 v1 q1 m1 ks1 ss1)] [(Query.mk d its frs whs ods lim)]).row [G0 :: (Ek ++ Es), G1 :: (Fi ++ (Ff ++ (Fw ++ Fo)))]), [PB L (must (isSg L t 41) t)], ⟨⟨_, _, rfl⟩, rfl⟩, endOk ?_⟩
  simp only [tt, seval, bae, PB, mKids, zVal, z0, Expr.row_mk, Query.row_mk, told]
  first | done | ((try refine ⟨by omega, ?_⟩); exact pool_ok fun x => by (try simp only [List.flatten_append, List.flatten_cons, List.count_append]); omega)
 | false =>
  rw [if_neg (by rw [c1]; simp)] at h
  split at h
  ·cases h
  rename_i l t hl
  injection h with h; injection h with h1 h2; subst h1 h2
  have ht := (OkM.ors ok _ _ _ hl).2.1 ha1
  have cl := pors_step L hL hT (ok 1) hor _ _ _ hl ha1
  simp only [tt, seval]
  refine dDrawn.intro [24] (.take 0 (.take 2 (.br 1 (.br 3 (.br 4 (.take 5 (.br 6 .done .nobr)) .nobr) .nobr) (.br 3 (.take 1 (.br 4 (.take 5 (.br 6 .done .nobr)) .nobr)) .nobr)))) (by kernel_rfl) ?_
  simp only [tt, seval]
  all_goals repeat' first | refine brC ?_ ?_ | refine brC2 ?_ ?_
  all_goals
   refine CallQ.intro (cl) ?_ ?_ ?_
   ·decide
   ·simp only [tt, seval, PB]
    decide
   rintro r os ⟨⟨hlen, Fl, rfl⟩, rfl⟩ hos
   simp only [tt, seval, PB]
  all_goals repeat' first | refine brA ?_ ?_ | refine brA2 ?_ ?_ | refine brA3 ?_ ?_
  all_goals
   refine ⟨by kernel_rfl, flatMap_len Expr.row_len l, ⟨by simp only [maxLen]; omega, by omega⟩, ?_⟩
  all_goals
   refine cS (pmustSign_d L hL hT t 41 ht) (by decide) ?_ ?_ <;> simp only [tt, seval, PB]
   refine fun G0 => ?_
   refine ⟨.ag (told (mKids 7 not ((Expr.mk k1 p1 n1 v1 q1 m1 ks1 ss1) :: l) []).row [G0 :: (Ek ++ Es ++ Fl), []]), [PB L (must (isSg L t 41) t)], ⟨⟨_, _, rfl⟩, rfl⟩, endOk ?_⟩
   simp only [tt, seval, bae, PB, mKids, zVal, z0, Expr.row_mk, told]
   first | done | ((try refine ⟨by omega, ?_⟩); exact pool_ok fun x => by (try simp only [List.flatten_append, List.count_append]); omega)
theorem pIntValue_d (k : Int) : Cl Tryz.prog 305 [vi k] [] fun r _ => r = .ag (csOf (Val.mk 1 k z0).row) := by
 refine cl_of_d follows_mixed false Tryz.func305 rfl (by kernel_rfl) ?_
 simp only [Tryz.f305, tt, seval]
 refine ⟨.ag (csOf (Val.mk 1 k z0).row), [], rfl, endOk ?_⟩
 simp only [tt, seval, Val.row, z0, bae]
theorem pTextValue_d (s : ByteArray) : Cl Tryz.prog 306 [vs s] [] fun r _ => r = .ag (csOf (Val.mk 2 0 s).row) := by
 refine cl_of_d follows_mixed false Tryz.func306 rfl (by kernel_rfl) ?_
 simp only [Tryz.f306, tt, seval]
 refine ⟨.ag (csOf (Val.mk 2 0 s).row), [], rfl, endOk ?_⟩
 simp only [tt, seval, Val.row]
theorem pBoolValue_t : Cl Tryz.prog 307 [vb true] [] fun r _ => r = .ag (csOf (Val.mk 3 1 z0).row) := by
 refine cl_of_d follows_mixed false Tryz.func307 rfl (by kernel_rfl) ?_
 simp only [Tryz.f307, tt, seval]
 refine ⟨.ag (csOf (Val.mk 3 1 z0).row), [], rfl, endOk ?_⟩
 simp only [tt, seval, Val.row, z0, bae]
theorem pBoolValue_f : Cl Tryz.prog 307 [vb false] [] fun r _ => r = .ag (csOf (Val.mk 3 0 z0).row) := by
 refine cl_of_d follows_mixed false Tryz.func307 rfl (by kernel_rfl) ?_
 simp only [Tryz.f307, tt, seval]
 refine ⟨.ag (csOf (Val.mk 3 0 z0).row), [], rfl, endOk ?_⟩
 simp only [tt, seval, Val.row, z0, bae]
set_option maxHeartbeats 4000000 in
theorem pprim_step (L : List Tok) (hL : L.length ≤ 1048576) (hT : ∀ t ∈ L, t.text.size ≤ 1048576) {f : Nat → PM Expr} {q : PM Query} (ok1 : OkM (L := L) (f 1)) (okq : OkM (L := L) q) (hf : TpE L 57 (f 1)) (hq : TpQ L 256 q) : TpE L 299 (primM L f q) := by
 intro s e s' h ha
 have hts := text_small hL hT s
 unfold primM at h
 simp only at h
 refine cl_of_d follows_mixed true Tryz.func299 rfl (by kernel_rfl) ?_
 simp only [Tryz.f299, tt, seval]
 refine cS (pisKind_d L hL hT s 3 ha) (by decide) ?_ ?_ <;> simp only [tt, seval, PB]
 cases c3 : isK L s 3 with
 | true =>
  rw [if_pos c3] at h
  injection h with h; injection h with h1 h2; subst h1 h2
  simp only [tt, seval]
  refine cS (pmustNumber_d L hL hT s ha) (by decide) ?_ ?_ <;> simp only [tt, seval, PB]
  have hn : mNum L s = (numV (textAt L s), adv s) := by unfold mNum; rw [mt_yes c3]
  rw [hn]
  refine cZ (pIntValue_d (numV (textAt L s))) (by decide) ?_ ?_ <;> simp only [tt, seval, Val.row]
  have cl := plit_d ⟨1, numV (textAt L s), z0⟩
  refine cZ (cl) (by decide) ?_ ?_ <;> simp only [tt, seval, bae, mLit, z0, Expr.row_mk, told, Val.row]
  refine ⟨.ag (told (mLit ⟨1, numV (textAt L s), z0⟩).row [[], []]), [PB L (adv s)], ⟨⟨[], [], rfl⟩, rfl⟩, endOk ?_⟩
  simp only [tt, seval, PB, mLit, z0, Expr.row_mk, told]
  first | done | ((try refine ⟨by omega, ?_⟩); exact pool_ok fun x => by (try simp only [List.count_nil]); omega)
 | false =>
 rw [if_neg (by rw [c3]; simp)] at h
 simp only [tt, seval]
 refine cS (pisKind_d L hL hT s 4 ha) (by decide) ?_ ?_ <;> simp only [tt, seval, PB]
 cases c4 : isK L s 4 with
 | true =>
  rw [if_pos c4] at h
  injection h with h; injection h with h1 h2; subst h1 h2
  simp only [tt, seval]
  refine cS (pmustKind_d L hL hT s 4 ha) (by decide) ?_ ?_ <;> simp only [tt, seval, PB]
  rw [mt_yes c4]
  refine cZ (pTextValue_d (textAt L s)) (by decide) ?_ ?_ <;> simp only [tt, seval, Val.row]
  have cl := plit_d ⟨2, 0, textAt L s⟩
  refine cZ (cl) (by decide) ?_ ?_ <;> simp only [tt, seval, bae, mLit, z0, Expr.row_mk, told, Val.row]
  refine ⟨.ag (told (mLit ⟨2, 0, textAt L s⟩).row [[], []]), [PB L (adv s)], ⟨⟨[], [], rfl⟩, rfl⟩, endOk ?_⟩
  simp only [tt, seval, PB, mLit, z0, Expr.row_mk, told]
  first | done | ((try refine ⟨by omega, ?_⟩); exact pool_ok fun x => by (try simp only [List.count_nil]); omega)
 | false =>
 rw [if_neg (by rw [c4]; simp)] at h
 simp only [tt, seval]
 refine cS (ptakeKey_d L hL hT s 20 ⟨#[78, 85, 76, 76]⟩ (by kernel_rfl) ha) (by decide) ?_ ?_ <;> simp only [tt, seval, PB]
 cases c20 : isKey L s 20 with
 | true =>
  rw [if_pos c20] at h
  injection h with h; injection h with h1 h2; subst h1 h2
  simp only [tt, seval, tkT]
  have cl := plit_d zVal
  refine cZ (cl) (by decide) ?_ ?_ <;> simp only [tt, seval, bae, mLit, zVal, z0, Expr.row_mk, told, Val.row]
  refine ⟨.ag (told (mLit zVal).row [[], []]), [PB L (adv s)], ⟨⟨[], [], rfl⟩, rfl⟩, endOk ?_⟩
  simp only [tt, seval, PB, mLit, zVal, z0, Expr.row_mk, told]
  first | done | ((try refine ⟨by omega, ?_⟩); exact pool_ok fun x => by (try simp only [List.count_nil]); omega)
 | false =>
 rw [if_neg (by rw [c20]; simp)] at h
 simp only [tt, seval, tkF]
 refine cS (ptakeKey_d L hL hT s 21 ⟨#[84, 82, 85, 69]⟩ (by kernel_rfl) ha) (by decide) ?_ ?_ <;> simp only [tt, seval, PB]
 cases c21 : isKey L s 21 with
 | true =>
  rw [if_pos c21] at h
  injection h with h; injection h with h1 h2; subst h1 h2
  simp only [tt, seval, tkT]
  refine cZ (pBoolValue_t) (by decide) ?_ ?_ <;> simp only [tt, seval, Val.row]
  have cl := plit_d ⟨3, 1, z0⟩
  refine cZ (cl) (by decide) ?_ ?_ <;> simp only [tt, seval, bae, mLit, z0, Expr.row_mk, told, Val.row]
  refine ⟨.ag (told (mLit ⟨3, 1, z0⟩).row [[], []]), [PB L (adv s)], ⟨⟨[], [], rfl⟩, rfl⟩, endOk ?_⟩
  simp only [tt, seval, PB, mLit, z0, Expr.row_mk, told]
  first | done | ((try refine ⟨by omega, ?_⟩); exact pool_ok fun x => by (try simp only [List.count_nil]); omega)
 | false =>
 rw [if_neg (by rw [c21]; simp)] at h
 simp only [tt, seval, tkF]
 refine cS (ptakeKey_d L hL hT s 22 ⟨#[70, 65, 76, 83, 69]⟩ (by kernel_rfl) ha) (by decide) ?_ ?_ <;> simp only [tt, seval, PB]
 cases c22 : isKey L s 22 with
 | true =>
  rw [if_pos c22] at h
  injection h with h; injection h with h1 h2; subst h1 h2
  simp only [tt, seval, tkT]
  refine cZ (pBoolValue_f) (by decide) ?_ ?_ <;> simp only [tt, seval, Val.row]
  have cl := plit_d ⟨3, 0, z0⟩
  refine cZ (cl) (by decide) ?_ ?_ <;> simp only [tt, seval, bae, mLit, z0, Expr.row_mk, told, Val.row]
  refine ⟨.ag (told (mLit ⟨3, 0, z0⟩).row [[], []]), [PB L (adv s)], ⟨⟨[], [], rfl⟩, rfl⟩, endOk ?_⟩
  simp only [tt, seval, PB, mLit, z0, Expr.row_mk, told]
  first | done | ((try refine ⟨by omega, ?_⟩); exact pool_ok fun x => by (try simp only [List.count_nil]); omega)
 | false =>
 rw [if_neg (by rw [c22]; simp)] at h
 simp only [tt, seval, tkF]
 refine cS (pisKind_d L hL hT s 2 ha) (by decide) ?_ ?_ <;> simp only [tt, seval, PB]
 cases c2 : isK L s 2 with
 | true =>
  rw [if_pos c2] at h
  simp only [tt, seval]
  refine cS (pmustKind_d L hL hT s 2 ha) (by decide) ?_ ?_ <;> simp only [tt, seval, PB]
  rw [mt_yes c2]
  simp only [seval]
  have ha1 := adv_le (L := L) (isK_lt c2)
  refine cS (ptakeSign_d L hL hT (adv s) 46 ha1) (by decide) ?_ ?_ <;> simp only [tt, seval, PB]
  cases cd : isSg L (adv s) 46 with
  | true =>
   rw [if_pos cd] at h
   injection h with h; injection h with h1 h2; subst h1 h2
   simp only [tt, seval, tkT]
   refine cS (pmustKind_d L hL hT (adv (adv s)) 2 (adv_le (isSg_lt cd))) (by decide) ?_ ?_ <;> simp only [tt, seval, PB]
   refine ⟨.ag (told (mCol (textAt L s) (mText L 2 (adv (adv s))).1).row [[], []]), [PB L ((mText L 2 (adv (adv s))).2)], ⟨⟨[], [], rfl⟩, rfl⟩, endOk ?_⟩
   simp only [tt, seval, bae, PB, mCol, zVal, Expr.row_mk, told]
   first | done | ((try refine ⟨by omega, ?_⟩); exact pool_ok fun x => by (try simp only [List.count_nil]); omega)
  | false =>
   rw [if_neg (by rw [cd]; simp)] at h
   injection h with h; injection h with h1 h2; subst h1 h2
   simp only [tt, seval, tkF]
   refine ⟨.ag (told (mCol z0 (textAt L s)).row [[], []]), [PB L (adv s)], ⟨⟨[], [], rfl⟩, rfl⟩, endOk ?_⟩
   simp only [tt, seval, bae, PB, mCol, zVal, z0, Expr.row_mk, told]
   first | done | ((try refine ⟨by omega, ?_⟩); exact pool_ok fun x => by (try simp only [List.count_nil]); omega)
 | false =>
 rw [if_neg (by rw [c2]; simp)] at h
 simp only [tt, seval]
 refine cS (ptakeSign_d L hL hT s 40 ha) (by decide) ?_ ?_ <;> simp only [tt, seval, PB]
 cases cl : isSg L s 40 with
 | true =>
  rw [if_pos cl] at h
  have ha1 := adv_le (L := L) (isSg_lt cl)
  split at h
  ·cases h
  rename_i x t hx
  injection h with h; injection h with h1 h2; subst h1 h2
  have o2 := ok1 _ _ _ hx
  obtain ⟨k1, p1, n1, v1, q1, m1, ks1, ss1⟩ := x
  have c := hf _ _ _ hx ha1
  rw [Expr.row_mk] at c
  simp only [tt, seval, tkT]
  refine CallQ.intro (c) ?_ ?_ ?_
  ·decide
  ·simp only [tt, seval, PB]
  rintro r os ⟨⟨Fk, Fs, rfl⟩, rfl⟩ hos
  simp only [tt, seval, PB, told]
  refine cS (pmustSign_d L hL hT t 41 (o2.2.1 ha1)) (by decide) ?_ ?_ <;> simp only [tt, seval, PB]
  refine ⟨.ag (told ((Expr.mk k1 p1 n1 v1 q1 m1 ks1 ss1)).row [Fk, Fs]), [PB L (must (isSg L t 41) t)], ⟨⟨Fk, Fs, by first | rfl | simp only [rW, told, Val.row, lc]⟩, rfl⟩, endOk ?_⟩
  simp only [tt, seval, PB, Expr.row_mk, told]
  first | done | ((try refine ⟨by omega, ?_⟩); exact pool_ok fun x => by (try simp only [List.flatten_append, List.count_append]); omega)
 | false =>
 rw [if_neg (by rw [cl]; simp)] at h
 simp only [tt, seval, tkF]
 refine cS (ptakeKey_d L hL hT s 19 ⟨#[69, 88, 73, 83, 84, 83]⟩ (by kernel_rfl) ha) (by decide) ?_ ?_ <;> simp only [tt, seval, PB]
 cases c19 : isKey L s 19 with
 | true =>
  rw [if_pos c19] at h
  simp only [tt, seval, tkT]
  have ha1 := adv_le (L := L) (isKey_lt c19)
  have o1 : Ok L (adv s) (must (isSg L (adv s) 40) (adv s)) := Ok.must fun h => isSg_lt h
  refine cS (pmustSign_d L hL hT (adv s) 40 ha1) (by decide) ?_ ?_ <;> simp only [tt, seval, PB]
  split at h
  ·cases h
  rename_i x t hx
  injection h with h; injection h with h1 h2; subst h1 h2
  have o2 := okq _ _ _ hx
  obtain ⟨d, its, frs, whs, ods, lim⟩ := x
  have c := hq _ _ _ hx (o1.2.1 ha1)
  rw [Query.row_mk] at c
  refine CallQ.intro (c) ?_ ?_ ?_
  ·decide
  ·simp only [tt, seval, PB]
  rintro r os ⟨⟨Fi, Ff, Fw, Fo, rfl⟩, rfl⟩ hos
  simp only [tt, seval, PB, told]
  refine cS (pmustSign_d L hL hT t 41 (o2.2.1 (o1.2.1 ha1))) (by decide) ?_ ?_ <;> simp only [tt, seval, PB]
  refine fun G0 => ?_
  refine ⟨.ag (told (mKids 9 false [] [(Query.mk d its frs whs ods lim)]).row [[], G0 :: (Fi ++ (Ff ++ (Fw ++ Fo)))]), [PB L (must (isSg L t 41) t)], ⟨⟨_, _, rfl⟩, rfl⟩, endOk ?_⟩
  simp only [tt, seval, bae, PB, mKids, zVal, z0, Expr.row_mk, Query.row_mk, told]
  first | done | ((try refine ⟨by omega, ?_⟩); exact pool_ok fun x => by (try simp only [List.flatten_append, List.count_append]); omega)
 | false =>
  rw [if_neg (by rw [c19]; simp)] at h
  injection h with h; injection h with h1 h2; subst h1 h2
  simp only [tt, seval, tkF, fl]
  refine ⟨.ag (told (zExpr).row [[], []]), [PB L (fl s)], ⟨⟨[], [], rfl⟩, rfl⟩, endOk ?_⟩
  simp only [tt, seval, fl, bae, PB, zExpr, zVal, z0, Expr.row_mk, told]
  first | done | ((try refine ⟨by omega, ?_⟩); exact pool_ok fun x => by (try simp only [List.count_nil]); omega)
end Go.Proofs.YtoegnikpokgbfaaGreatDoor
