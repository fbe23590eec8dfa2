/-
  The reference's parser.
  Conditions: none.
-/
import Derived.Test.YtijldlppojdehaaGreatDoorDNB
import Derived.Test.YtijldlppojdehaaGreatDoorDNF
set_option linter.unusedVariables false
set_option linter.unusedSimpArgs false
set_option linter.unusedSectionVars false
set_option maxRecDepth 8000
namespace Go.Proofs.YtijldlppojdehaaGreatDoor
open Go Go.Dv
open Go.Vc (D shrI xorI andI and255)
def PB (L : List Tok) (s : PS) : List C := [.sl L.length (L.flatMap Tok.row) none, .v (.int .i64 s.a), .v (.bool s.b)]
def nxT (L : List Tok) (s : PS) (k : Nat) : Tok := (tkAt L s k).getD ⟨0, ⟨#[]⟩, 0⟩
theorem nx_T (L : List Tok) (s : PS) (k : Nat) (kind : Int) (x : ByteArray) (h : kind ≠ 0) : (decide ((nxT L s k).kind = kind) && decide ((nxT L s k).text = x)) = isT L s k kind x := by
 unfold nxT isT
 cases tkAt L s k with
 | none => simp [Ne.symm h]
 | some t => rfl
theorem nx_K (L : List Tok) (s : PS) (kind : Int) (h : kind ≠ 0) : (decide ((nxT L s 0).kind = kind) && okTok (nxT L s 0)) = isK L s kind := by
 unfold nxT isK
 cases tkAt L s 0 with
 | none => simp [Ne.symm h]
 | some t => rfl
theorem nx_text (L : List Tok) (s : PS) : (nxT L s 0).text = textAt L s := by
 unfold nxT textAt
 cases tkAt L s 0 with
 | none => rfl
 | some t => rfl
theorem nx_small {L : List Tok} (hL : L.length ≤ 1048576) (hT : ∀ t ∈ L, t.text.size ≤ 1048576) (s : PS) (k : Nat) : (nxT L s k).text.size ≤ 1048576 := by
 unfold nxT
 cases h : tkAt L s k with
 | none => exact Nat.zero_le _
 | some t =>
  unfold tkAt at h
  split at h
  ·cases h
  ·exact hT t (List.mem_of_getElem? h)
theorem l12Next_d (L : List Tok) (hL : L.length ≤ 1048576) (hT : ∀ t ∈ L, t.text.size ≤ 1048576) (s : PS) (k : Nat) (hk : k ≤ 100) (ha : s.a ≤ L.length) : Cl Tryz.prog 83 [.c (.p 9000 0), vi k] [PB L s] fun r os => r = .ag (csOf (nxT L s k).row) ∧ os = [PB L s] := by
 obtain ⟨a, b⟩ := s
 have ha : a ≤ L.length := ha
 cases b with
 | true =>
  have e : nxT L ⟨a, true⟩ k = ⟨0, ⟨#[]⟩, 0⟩ := rfl
  rw [e]
  refine cl_of_d follows_mixed false Tryz.func83 rfl (by kernel_rfl) ?_
  simp only [Tryz.f83, tt, seval]
  refine dDrawn.intro [] (pln [0, 2, 4, 6, 8, 10, 12, 14, 16, 18, 20, 22, 24, 26, 28, 30, 32, 34]) (by kernel_rfl) ?_
  simp only [tt, seval]
  simp only [tt, seval, PB]
  refine ⟨_, [PB L ⟨a, true⟩], ⟨rfl, rfl⟩, endOk ?_⟩
  simp only [tt, seval, PB, Tok.row]
  rfl
 | false =>
  refine cl_of_d follows_mixed false Tryz.func83 rfl (by kernel_rfl) ?_
  simp only [Tryz.f83, tt, seval]
  refine dDrawn.intro [] (pln [0, 2, 4, 6, 8, 10, 12, 14, 16, 18, 20, 22, 24, 26, 28, 30, 32, 34]) (by kernel_rfl) ?_
  simp only [tt, seval]
  simp only [tt, seval, PB]
  rw [wrap_id (n := (a : Int) + k) (by omega) (by omega)]
  refine fun _ => And.intro (fun hge => ?_) (fun hlt => ?_)
  ·have e : nxT L ⟨a, false⟩ k = ⟨0, ⟨#[]⟩, 0⟩ := by
    show (L[a + k]?).getD _ = _
    rw [List.getElem?_eq_none_iff.2 (by omega)]; rfl
   rw [e]
   refine ⟨_, [PB L ⟨a, false⟩], ⟨rfl, rfl⟩, endOk ?_⟩
   simp only [tt, seval, PB, Tok.row]
   rfl
  ·have hlt : a + k < L.length := by omega
   have e : nxT L ⟨a, false⟩ k = L[a + k] := by
    show (L[a + k]?).getD _ = _
    rw [List.getElem?_eq_getElem hlt]; rfl
   rw [e]
   refine dDrawn.intro [] (pln [0, 2, 4, 6, 8, 10, 12, 14, 16, 18, 20, 22, 25]) (by kernel_rfl) ?_
   simp only [tt, seval]
   try simp only [tt, seval]
   rw [wrap_id (n := (a : Int) + k) (by omega) (by omega)]
   have e2 : ((a : Int) + (k : Int)).toNat = a + k := by omega
   simp only [e2]
   refine ⟨by omega, by omega, _, drop_row Tok.row_len (List.getElem?_eq_getElem (by omega)), Tok.ne _ _, ?_⟩
   simp only [tt, seval, Tok.tk, Tok.row]
   refine ⟨_, [PB L ⟨a, false⟩], ⟨rfl, rfl⟩, endOk ?_⟩
   simp only [tt, seval, PB, Tok.row]
theorem l12Sign_d (L : List Tok) (hL : L.length ≤ 1048576) (hT : ∀ t ∈ L, t.text.size ≤ 1048576) (s : PS) (x : ByteArray) (ha : s.a ≤ L.length) : Cl Tryz.prog 48 [.c (.p 9000 0), vs x] [PB L s] fun r os => r = vb (isT L s 0 5 x) ∧ os = [PB L s] := by
 rw [show isT L s 0 5 x = _ from (nx_T L s 0 5 x (by decide)).symm]
 refine cl_of_d follows_mixed false Tryz.func48 rfl (by kernel_rfl) ?_
 simp only [Tryz.f48, tt, seval]
 refine cS (l12Next_d L hL hT s 0 (by omega) ha) (by decide) ?_ ?_ <;> simp only [tt, seval, PB, Tok.row]
 generalize nxT L s 0 = t at *
 by_cases hk : t.kind = 5
 ·simp only [tt, seval, decide_eq_true hk]
  refine ⟨_, [PB L s], ⟨rfl, rfl⟩, endOk ?_⟩
  simp only [tt, seval, PB]
 ·simp only [tt, seval, decide_eq_false hk]
  refine ⟨_, [PB L s], ⟨rfl, rfl⟩, endOk ?_⟩
  simp only [tt, seval, PB]
theorem l12Kind_d (L : List Tok) (hL : L.length ≤ 1048576) (hT : ∀ t ∈ L, t.text.size ≤ 1048576) (s : PS) (k : Nat) (h1 : 1 ≤ k) (ha : s.a ≤ L.length) : Cl Tryz.prog 131 [.c (.p 9000 0), vi k] [PB L s] fun r os => r = vb (isK L s k) ∧ os = [PB L s] := by
 rw [show isK L s k = _ from (nx_K L s k (by omega)).symm]
 refine cl_of_d follows_mixed false Tryz.func131 rfl (by kernel_rfl) ?_
 simp only [Tryz.f131, tt, seval]
 refine cS (l12Next_d L hL hT s 0 (by omega) ha) (by decide) ?_ ?_ <;> simp only [tt, seval, PB, Tok.row]
 have hs := nx_small hL hT s 0
 generalize nxT L s 0 = t at *
 by_cases hk : t.kind = k
 ·simp only [tt, seval, decide_eq_true hk]
  refine cZ (TokenOk_d t hs) (by decide) ?_ ?_ <;> simp only [tt, seval, PB, Tok.row]
  refine ⟨_, [PB L s], ⟨rfl, rfl⟩, endOk ?_⟩
  simp only [tt, seval, PB]
 ·simp only [tt, seval, decide_eq_false hk]
  refine ⟨_, [PB L s], ⟨rfl, rfl⟩, endOk ?_⟩
  simp only [tt, seval, PB]
theorem l12Step_d (L : List Tok) (hL : L.length ≤ 1048576) (hT : ∀ t ∈ L, t.text.size ≤ 1048576) (s : PS) (c : Bool) (hc : c = true → s.b = false ∧ s.a < L.length) : Cl Tryz.prog 47 [.c (.p 9000 0), vb c] [PB L s] fun r os => r = .tu [] ∧ os = [PB L (must c s)] := by
 obtain ⟨a, b⟩ := s
 cases c with
 | true =>
  obtain ⟨rfl, ha⟩ := hc rfl
  have ha : a < L.length := ha
  refine cl_of_d follows_mixed false Tryz.func47 rfl (by kernel_rfl) ?_
  simp only [Tryz.f47, tt, seval]
  simp only [tt, seval, PB]
  rw [wrap_id (n := (a : Int) + 1) (by omega) (by omega)]
  refine ⟨_, [PB L ⟨a + 1, false⟩], ⟨rfl, rfl⟩, endOk ?_⟩
  simp only [tt, seval, PB]
  rfl
 | false =>
  refine cl_of_d follows_mixed false Tryz.func47 rfl (by kernel_rfl) ?_
  simp only [Tryz.f47, tt, seval]
  simp only [tt, seval, PB]
  refine ⟨_, [PB L ⟨a, true⟩], ⟨rfl, rfl⟩, endOk ?_⟩
  simp only [tt, seval, PB]
theorem l12Text_d (L : List Tok) (hL : L.length ≤ 1048576) (hT : ∀ t ∈ L, t.text.size ≤ 1048576) (s : PS) (k : Nat) (h1 : 1 ≤ k) (ha : s.a ≤ L.length) : Cl Tryz.prog 84 [.c (.p 9000 0), vi k] [PB L s] fun r os => r = vs (mText L k s).1 ∧ os = [PB L (mText L k s).2] := by
 refine cl_of_d follows_mixed false Tryz.func84 rfl (by kernel_rfl) ?_
 simp only [Tryz.f84, tt, seval]
 refine cS (l12Next_d L hL hT s 0 (by omega) ha) (by decide) ?_ ?_ <;> simp only [tt, seval, PB, Tok.row]
 refine cS (l12Kind_d L hL hT s k h1 ha) (by decide) ?_ ?_ <;> simp only [tt, seval, PB, Tok.row]
 refine cS (l12Step_d L hL hT s (isK L s k) (fun h => isK_lt h)) (by decide) ?_ ?_ <;> simp only [tt, seval, PB, Tok.row]
 cases hk : isK L s k with
 | true =>
  obtain ⟨hb, _⟩ := isK_lt hk
  simp only [tt, seval, must, adv, hb]
  refine ⟨vs (nxT L s 0).text, [PB L (adv s)], ⟨?_, ?_⟩, endOk ?_⟩
  ·rw [mText, if_pos hk, nx_text]
  ·rw [mText, if_pos hk]; rfl
  ·simp only [tt, seval, PB, adv, hb]
 | false =>
  simp only [tt, seval, must, fl]
  refine ⟨vs ⟨#[]⟩, [PB L (fl s)], ⟨?_, ?_⟩, endOk ?_⟩
  ·rw [mText, if_neg (by rw [hk]; simp)]
  ·rw [mText, if_neg (by rw [hk]; simp)]; rfl
  ·simp only [tt, seval, PB, fl]
theorem tkT (s : PS) : tkIf true s = adv s := rfl
theorem tkF (s : PS) : tkIf false s = s := rfl
theorem muT (s : PS) : must true s = adv s := rfl
theorem muF (s : PS) : must false s = fl s := rfl
theorem adv_le {L : List Tok} {s : PS} (h : s.b = false ∧ s.a < L.length) : (adv s).a ≤ L.length := h.2
theorem mt_yes {L : List Tok} {s : PS} {k : Int} (h : isK L s k = true) : mText L k s = (textAt L s, adv s) := by rw [mText, if_pos h]
def atS (Lo : Ob) : Nat := match Go.Dv.look Lo 9000 with | some (.str [_, .v (.int _ a), _]) => a.toNat | _ => 0
end Go.Proofs.YtijldlppojdehaaGreatDoor
