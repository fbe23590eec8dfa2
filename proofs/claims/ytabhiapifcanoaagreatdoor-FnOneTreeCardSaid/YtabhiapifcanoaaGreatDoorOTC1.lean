/-
  The reference's parser.
  Conditions: none.
-/
import Derived.Test.YtabhiapifcanoaaGreatDoorOTF2
set_option linter.unusedVariables false
set_option linter.unusedSimpArgs false
set_option linter.unusedSectionVars false
set_option linter.unnecessarySimpa false
set_option maxRecDepth 8000
namespace Go.Proofs.YtabhiapifcanoaaGreatDoor
open Go Go.Dv
open Go.Vc (D shrI xorI andI and255)
def PB (L : List Tok) (s : PS) : List C := [.sl L.length (L.flatMap Tok.row) none, .v (.int .i64 s.a), .v (.bool s.b)]
def nxT (L : List Tok) (s : PS) (k : Nat) : Tok := (tkAt L s k).getD ⟨0, ⟨#[]⟩, 0⟩
theorem nx_T (L : List Tok) (s : PS) (k : Nat) (kind : Int) (x : ByteArray) (h : kind ≠ 0) : (decide ((nxT L s k).kind = kind) && decide ((nxT L s k).text = x)) = isT L s k kind x := by
 unfold nxT isT
 cases tkAt L s k with
 | none => simp [Ne.symm h]
 | some t => rfl
theorem nx_K (L : List Tok) (s : PS) (kind : Int) (h : kind ≠ 0) : (decide ((nxT L s 0).kind = kind) && okTok (nxT L s 0)) = isK L s kind := by
 unfold nxT isK
 cases tkAt L s 0 with
 | none => simp [Ne.symm h]
 | some t => rfl
theorem nx_text (L : List Tok) (s : PS) : (nxT L s 0).text = textAt L s := by
 unfold nxT textAt
 cases tkAt L s 0 with
 | none => rfl
 | some t => rfl
theorem nx_small {L : List Tok} (hL : L.length ≤ 1048576) (hT : ∀ t ∈ L, t.text.size ≤ 1048576) (s : PS) (k : Nat) : (nxT L s k).text.size ≤ 1048576 := by
 unfold nxT
 cases h : tkAt L s k with
 | none => exact Nat.zero_le _
 | some t =>
  unfold tkAt at h
  split at h
  ·cases h
  ·exact hT t (List.mem_of_getElem? h)
theorem l12Next_d (L : List Tok) (hL : L.length ≤ 1048576) (hT : ∀ t ∈ L, t.text.size ≤ 1048576) (s : PS) (k : Nat) (hk : k ≤ 100) (ha : s.a ≤ L.length) : Cl Tryz.prog 118 [.c (.p 9000 0), vi k] [PB L s] fun r os => r = .ag (csOf (nxT L s k).row) ∧ os = [PB L s] := by
 obtain ⟨a, b⟩ := s
 have ha : a ≤ L.length := ha
 cases b with
 | true =>
  have e : nxT L ⟨a, true⟩ k = ⟨0, ⟨#[]⟩, 0⟩ := rfl
  rw [e]
  refine cl_of_d follows_mixed false Tryz.func118 rfl (by kernel_rfl) ?_
  simp only [Tryz.f118, tt, seval]
  refine dDrawn.intro [] (pln [0, 2, 4, 6, 8, 10, 12, 14, 16, 18, 20, 22, 24, 26, 28, 30, 32, 34]) (by kernel_rfl) ?_
  simp only [tt, seval]
  simp only [tt, seval, PB]
  refine ⟨_, [PB L ⟨a, true⟩], ⟨rfl, rfl⟩, endOk ?_⟩
  simp only [tt, seval, PB, Tok.row]
  rfl
 | false =>
  refine cl_of_d follows_mixed false Tryz.func118 rfl (by kernel_rfl) ?_
  simp only [Tryz.f118, tt, seval]
  refine dDrawn.intro [] (pln [0, 2, 4, 6, 8, 10, 12, 14, 16, 18, 20, 22, 24, 26, 28, 30, 32, 34]) (by kernel_rfl) ?_
  simp only [tt, seval]
  simp only [tt, seval, PB]
  rw [wrap_id (n := (a : Int) + k) (by omega) (by omega)]
  refine fun _ => And.intro (fun hge => ?_) (fun hlt => ?_)
  ·have e : nxT L ⟨a, false⟩ k = ⟨0, ⟨#[]⟩, 0⟩ := by
    show (L[a + k]?).getD _ = _
    rw [List.getElem?_eq_none_iff.2 (by omega)]; rfl
   rw [e]
   refine ⟨_, [PB L ⟨a, false⟩], ⟨rfl, rfl⟩, endOk ?_⟩
   simp only [tt, seval, PB, Tok.row]
   rfl
  ·have hlt : a + k < L.length := by omega
   have e : nxT L ⟨a, false⟩ k = L[a + k] := by
    show (L[a + k]?).getD _ = _
    rw [List.getElem?_eq_getElem hlt]; rfl
   rw [e]
   refine dDrawn.intro [] (pln [0, 2, 4, 6, 8, 10, 12, 14, 16, 18, 20, 22, 25]) (by kernel_rfl) ?_
   simp only [tt, seval]
   try simp only [tt, seval]
   rw [wrap_id (n := (a : Int) + k) (by omega) (by omega)]
   have e2 : ((a : Int) + (k : Int)).toNat = a + k := by omega
   simp only [e2]
   refine ⟨by omega, by omega, _, drop_row Tok.row_len (List.getElem?_eq_getElem (by omega)), Tok.ne _ _, ?_⟩
   simp only [tt, seval, Tok.tk, Tok.row]
   refine ⟨_, [PB L ⟨a, false⟩], ⟨rfl, rfl⟩, endOk ?_⟩
   simp only [tt, seval, PB, Tok.row]
theorem l12Key_d (L : List Tok) (hL : L.length ≤ 1048576) (hT : ∀ t ∈ L, t.text.size ≤ 1048576) (s : PS) (k : Nat) (h1 : 1 ≤ k) (h2 : k ≤ 28) (ha : s.a ≤ L.length) : Cl Tryz.prog 116 [.c (.p 9000 0), vi k] [PB L s] fun r os => r = vb (isKey L s k) ∧ os = [PB L s] := by
 rw [show isKey L s k = _ from (nx_T L s 0 1 (kw k) (by decide)).symm]
 refine cl_of_d follows_mixed false Tryz.func116 rfl (by kernel_rfl) ?_
 simp only [Tryz.f116, tt, seval]
 refine cS (l12Next_d L hL hT s 0 (by omega) ha) (by decide) ?_ ?_ <;> simp only [tt, seval, PB, Tok.row]
 refine dDrawn.intro [] (pln [0, 2, 4, 6, 8, 10, 12, 15, 16, 18, 20]) (by kernel_rfl) ?_
 simp only [tt, seval]
 try simp only [tt, seval, PB, Tok.row]
 generalize nxT L s 0 = t at *
 by_cases hk : t.kind = 1
 ·simp only [tt, seval, decide_eq_true hk]
  refine cZ (KeyText_d k h1 h2) (by decide) ?_ ?_ <;> simp only [tt, seval, PB, Tok.row]
  refine ⟨_, [PB L s], ⟨rfl, rfl⟩, endOk ?_⟩
  simp only [tt, seval, PB]
 ·simp only [tt, seval, decide_eq_false hk]
  refine ⟨_, [PB L s], ⟨rfl, rfl⟩, endOk ?_⟩
  simp only [tt, seval, PB]
theorem l12Sign_d (L : List Tok) (hL : L.length ≤ 1048576) (hT : ∀ t ∈ L, t.text.size ≤ 1048576) (s : PS) (x : ByteArray) (ha : s.a ≤ L.length) : Cl Tryz.prog 72 [.c (.p 9000 0), vs x] [PB L s] fun r os => r = vb (isT L s 0 5 x) ∧ os = [PB L s] := by
 rw [show isT L s 0 5 x = _ from (nx_T L s 0 5 x (by decide)).symm]
 refine cl_of_d follows_mixed false Tryz.func72 rfl (by kernel_rfl) ?_
 simp only [Tryz.f72, tt, seval]
 refine cS (l12Next_d L hL hT s 0 (by omega) ha) (by decide) ?_ ?_ <;> simp only [tt, seval, PB, Tok.row]
 generalize nxT L s 0 = t at *
 by_cases hk : t.kind = 5
 ·simp only [tt, seval, decide_eq_true hk]
  refine ⟨_, [PB L s], ⟨rfl, rfl⟩, endOk ?_⟩
  simp only [tt, seval, PB]
 ·simp only [tt, seval, decide_eq_false hk]
  refine ⟨_, [PB L s], ⟨rfl, rfl⟩, endOk ?_⟩
  simp only [tt, seval, PB]
theorem l12Kind_d (L : List Tok) (hL : L.length ≤ 1048576) (hT : ∀ t ∈ L, t.text.size ≤ 1048576) (s : PS) (k : Nat) (h1 : 1 ≤ k) (ha : s.a ≤ L.length) : Cl Tryz.prog 119 [.c (.p 9000 0), vi k] [PB L s] fun r os => r = vb (isK L s k) ∧ os = [PB L s] := by
 rw [show isK L s k = _ from (nx_K L s k (by omega)).symm]
 refine cl_of_d follows_mixed false Tryz.func119 rfl (by kernel_rfl) ?_
 simp only [Tryz.f119, tt, seval]
 refine cS (l12Next_d L hL hT s 0 (by omega) ha) (by decide) ?_ ?_ <;> simp only [tt, seval, PB, Tok.row]
 have hs := nx_small hL hT s 0
 generalize nxT L s 0 = t at *
 by_cases hk : t.kind = k
 ·simp only [tt, seval, decide_eq_true hk]
  refine cZ (TokenOk_d t hs) (by decide) ?_ ?_ <;> simp only [tt, seval, PB, Tok.row]
  refine ⟨_, [PB L s], ⟨rfl, rfl⟩, endOk ?_⟩
  simp only [tt, seval, PB]
 ·simp only [tt, seval, decide_eq_false hk]
  refine ⟨_, [PB L s], ⟨rfl, rfl⟩, endOk ?_⟩
  simp only [tt, seval, PB]
theorem l12Step_d (L : List Tok) (hL : L.length ≤ 1048576) (hT : ∀ t ∈ L, t.text.size ≤ 1048576) (s : PS) (c : Bool) (hc : c = true → s.b = false ∧ s.a < L.length) : Cl Tryz.prog 73 [.c (.p 9000 0), vb c] [PB L s] fun r os => r = .tu [] ∧ os = [PB L (must c s)] := by
 obtain ⟨a, b⟩ := s
 cases c with
 | true =>
  obtain ⟨rfl, ha⟩ := hc rfl
  have ha : a < L.length := ha
  refine cl_of_d follows_mixed false Tryz.func73 rfl (by kernel_rfl) ?_
  simp only [Tryz.f73, tt, seval]
  simp only [tt, seval, PB]
  rw [wrap_id (n := (a : Int) + 1) (by omega) (by omega)]
  refine ⟨_, [PB L ⟨a + 1, false⟩], ⟨rfl, rfl⟩, endOk ?_⟩
  simp only [tt, seval, PB]
  rfl
 | false =>
  refine cl_of_d follows_mixed false Tryz.func73 rfl (by kernel_rfl) ?_
  simp only [Tryz.f73, tt, seval]
  simp only [tt, seval, PB]
  refine ⟨_, [PB L ⟨a, true⟩], ⟨rfl, rfl⟩, endOk ?_⟩
  simp only [tt, seval, PB]
theorem l12Maybe_d (L : List Tok) (hL : L.length ≤ 1048576) (hT : ∀ t ∈ L, t.text.size ≤ 1048576) (s : PS) (k : Nat) (h1 : 1 ≤ k) (h2 : k ≤ 28) (ha : s.a ≤ L.length) : Cl Tryz.prog 70 [.c (.p 9000 0), vi k] [PB L s] fun r os => r = vb (isKey L s k) ∧ os = [PB L (tkIf (isKey L s k) s)] := by
 refine cl_of_d follows_mixed false Tryz.func70 rfl (by kernel_rfl) ?_
 simp only [Tryz.f70, tt, seval]
 refine cS (l12Key_d L hL hT s k h1 h2 ha) (by decide) ?_ ?_ <;> simp only [tt, seval, PB]
 cases hk : isKey L s k with
 | true =>
  simp only [tt, seval]
  refine cS (l12Step_d L hL hT s true (fun _ => isKey_lt hk)) (by decide) ?_ ?_ <;> simp only [tt, seval, PB]
  refine ⟨_, [PB L (adv s)], ⟨rfl, rfl⟩, endOk ?_⟩
  simp only [tt, seval, PB, must]
 | false =>
  simp only [tt, seval, Bool.false_eq_true]
  refine ⟨_, [PB L s], ⟨rfl, rfl⟩, endOk ?_⟩
  simp only [tt, seval, PB]
theorem l12Text_d (L : List Tok) (hL : L.length ≤ 1048576) (hT : ∀ t ∈ L, t.text.size ≤ 1048576) (s : PS) (k : Nat) (h1 : 1 ≤ k) (ha : s.a ≤ L.length) : Cl Tryz.prog 121 [.c (.p 9000 0), vi k] [PB L s] fun r os => r = vs (mText L k s).1 ∧ os = [PB L (mText L k s).2] := by
 refine cl_of_d follows_mixed false Tryz.func121 rfl (by kernel_rfl) ?_
 simp only [Tryz.f121, tt, seval]
 refine cS (l12Next_d L hL hT s 0 (by omega) ha) (by decide) ?_ ?_ <;> simp only [tt, seval, PB, Tok.row]
 refine cS (l12Kind_d L hL hT s k h1 ha) (by decide) ?_ ?_ <;> simp only [tt, seval, PB, Tok.row]
 refine cS (l12Step_d L hL hT s (isK L s k) (fun h => isK_lt h)) (by decide) ?_ ?_ <;> simp only [tt, seval, PB, Tok.row]
 cases hk : isK L s k with
 | true =>
  obtain ⟨hb, _⟩ := isK_lt hk
  simp only [tt, seval, must, adv, hb]
  refine ⟨vs (nxT L s 0).text, [PB L (adv s)], ⟨?_, ?_⟩, endOk ?_⟩
  ·rw [mText, if_pos hk, nx_text]
  ·rw [mText, if_pos hk]; rfl
  ·simp only [tt, seval, PB, adv, hb]
 | false =>
  simp only [tt, seval, must, fl]
  refine ⟨vs ⟨#[]⟩, [PB L (fl s)], ⟨?_, ?_⟩, endOk ?_⟩
  ·rw [mText, if_neg (by rw [hk]; simp)]
  ·rw [mText, if_neg (by rw [hk]; simp)]; rfl
  ·simp only [tt, seval, PB, fl]
theorem tkT (s : PS) : tkIf true s = adv s := rfl
theorem tkF (s : PS) : tkIf false s = s := rfl
theorem muT (s : PS) : must true s = adv s := rfl
theorem muF (s : PS) : must false s = fl s := rfl
def SpE (L : List Tok) (fn : FuncId) (args : List S) (m : PM Expr) : Prop := ∀ s e s', m s = some (e, s') → s.a ≤ L.length → Cl Tryz.prog fn (.c (.p 9000 0) :: args) [PB L s] fun r os => r = .ag (csOf e.row) ∧ os = [PB L s']
def SpQ (L : List Tok) (fn : FuncId) (m : PM Query) : Prop := ∀ s e s', m s = some (e, s') → s.a ≤ L.length → Cl Tryz.prog fn [.c (.p 9000 0)] [PB L s] fun r os => r = .ag (csOf e.row) ∧ os = [PB L s']
theorem text_small {L : List Tok} (hL : L.length ≤ 1048576) (hT : ∀ t ∈ L, t.text.size ≤ 1048576) (s : PS) : (textAt L s).size ≤ 1048576 := by
 rw [← nx_text]; exact nx_small hL hT s 0
theorem adv_le {L : List Tok} {s : PS} (h : s.b = false ∧ s.a < L.length) : (adv s).a ≤ L.length := h.2
theorem mt_yes {L : List Tok} {s : PS} {k : Int} (h : isK L s k = true) : mText L k s = (textAt L s, adv s) := by rw [mText, if_pos h]
theorem key_not_sg {L : List Tok} {s : PS} {k : Nat} {c : UInt8} (h : isKey L s k = true) : isSg L s c = false := by
 unfold isKey isT at h
 unfold isSg isT
 cases ht : tkAt L s 0 with
 | none => rfl
 | some t =>
  rw [ht] at h
  simp only [Bool.and_eq_true, decide_eq_true_eq] at h
  simp [h.1]
theorem bae : ByteArray.empty = ⟨#[]⟩ := rfl
theorem rW : type_of% (And.intro @bae (And.intro @PB.eq_1 (And.intro @mLit.eq_1 (And.intro @mCol.eq_1 (And.intro @mKids.eq_1 (And.intro @mUn.eq_1 (And.intro @mBin.eq_1 (And.intro @zExpr.eq_1 (And.intro @zVal.eq_1 (And.intro @z0.eq_1 (And.intro @Expr.row_mk (And.intro @Query.row_mk (And.intro @List.flatMap_nil.{0,0} (And.intro @List.flatMap_cons.{0,0} (And.intro @List.append_nil.{0} (And.intro @List.length_nil.{0} @List.length_cons.{0})))))))))))))))) := And.intro @bae (And.intro @PB.eq_1 (And.intro @mLit.eq_1 (And.intro @mCol.eq_1 (And.intro @mKids.eq_1 (And.intro @mUn.eq_1 (And.intro @mBin.eq_1 (And.intro @zExpr.eq_1 (And.intro @zVal.eq_1 (And.intro @z0.eq_1 (And.intro @Expr.row_mk (And.intro @Query.row_mk (And.intro @List.flatMap_nil.{0,0} (And.intro @List.flatMap_cons.{0,0} (And.intro @List.append_nil.{0} (And.intro @List.length_nil.{0} @List.length_cons.{0})))))))))))))))
theorem TextValue_d (s : ByteArray) : Cl Tryz.prog 122 [vs s] [] fun r _ => r = .ag (csOf (Val.mk 2 0 s).row) := by
 refine cl_of_d follows_mixed false Tryz.func122 rfl (by kernel_rfl) ?_
 simp only [Tryz.f122, tt, seval]
 refine ⟨.ag (csOf (Val.mk 2 0 s).row), [], rfl, end0 rfl⟩
theorem BoolValue_t : Cl Tryz.prog 123 [vb true] [] fun r _ => r = .ag (csOf (Val.mk 3 1 z0).row) := by
 refine cl_of_d follows_mixed false Tryz.func123 rfl (by kernel_rfl) ?_
 simp only [Tryz.f123, tt, seval]
 refine ⟨.ag (csOf (Val.mk 3 1 z0).row), [], rfl, endOk ?_⟩
 simp only [tt, seval, Val.row, z0, bae]
theorem BoolValue_f : Cl Tryz.prog 123 [vb false] [] fun r _ => r = .ag (csOf (Val.mk 3 0 z0).row) := by
 refine cl_of_d follows_mixed false Tryz.func123 rfl (by kernel_rfl) ?_
 simp only [Tryz.f123, tt, seval]
 refine ⟨.ag (csOf (Val.mk 3 0 z0).row), [], rfl, endOk ?_⟩
 simp only [tt, seval, Val.row, z0, bae]
theorem l12SignC_d (L : List Tok) (hL : L.length ≤ 1048576) (hT : ∀ t ∈ L, t.text.size ≤ 1048576) (s : PS) (c : UInt8) (ha : s.a ≤ L.length) : Cl Tryz.prog 72 [.c (.p 9000 0), vs ⟨#[c]⟩] [PB L s] fun r os => r = vb (isSg L s c) ∧ os = [PB L s] := l12Sign_d L hL hT s ⟨#[c]⟩ ha
theorem l12As_d (L : List Tok) (hL : L.length ≤ 1048576) (hT : ∀ t ∈ L, t.text.size ≤ 1048576) (s : PS) (ha : s.a ≤ L.length) : Cl Tryz.prog 203 [.c (.p 9000 0)] [PB L s] fun r os => r = vs (asM L s).1 ∧ os = [PB L (asM L s).2] := by
 refine cl_of_d follows_mixed false Tryz.func203 rfl (by kernel_rfl) ?_
 simp only [Tryz.f203, tt, seval]
 refine cS (l12Maybe_d L hL hT s 12 (by omega) (by omega) ha) (by decide) ?_ ?_ <;> simp only [tt, seval, PB]
 cases c : isKey L s 12 with
 | true =>
  have hm : asM L s = mText L 2 (adv s) := by rw [asM, if_pos c]
  rw [hm]
  simp only [tt, seval, tkT, tkF, muT, muF]
  refine cS (l12Text_d L hL hT (adv s) 2 (by omega) (adv_le (isKey_lt c))) (by decide) ?_ ?_ <;> simp only [tt, seval, PB]
  refine ⟨_, [PB L (mText L 2 (adv s)).2], ⟨rfl, rfl⟩, endOk ?_⟩
  simp only [tt, seval, PB]
 | false =>
  have hm : asM L s = (z0, s) := by rw [asM, if_neg (by rw [c]; simp)]
  rw [hm]
  simp only [tt, seval, tkT, tkF, muT, muF, Bool.false_eq_true]
  refine ⟨vs z0, [PB L s], ⟨rfl, rfl⟩, endOk ?_⟩
  simp only [tt, seval, PB, z0]
set_option maxHeartbeats 1000000 in
theorem l12Prim_step (L : List Tok) (hL : L.length ≤ 1048576) (hT : ∀ t ∈ L, t.text.size ≤ 1048576) {f : Nat → PM Expr} {q : PM Query} (ok1 : OkM (L := L) (f 1)) (okq : OkM (L := L) q) (hf : SpE L 34 [vi 1] (f 1)) (hq : SpQ L 124 q) : SpE L 74 [] (primM L f q) := by
 intro s e s' h ha
 have hts := text_small hL hT s
 unfold primM at h
 simp only at h
 refine cl_of_d follows_mixed false Tryz.func74 rfl (by kernel_rfl) ?_
 simp only [Tryz.f74, tt, seval]
 refine cS (l12Kind_d L hL hT s 3 (by omega) ha) (by decide) ?_ ?_ <;> simp only [tt, seval, PB]
 cases c3 : isK L s 3 with
 | true =>
  rw [if_pos c3] at h
  injection h with h; injection h with h1 h2; subst h1 h2
  simp only [tt, seval]
  refine cS (l12Text_d L hL hT s 3 (by omega) ha) (by decide) ?_ ?_ <;> simp only [tt, seval, PB]
  rw [mt_yes c3]
  refine cZ (Number_d (textAt L s) hts) (by decide) ?_ ?_ <;> simp only [tt, seval, numS]
  refine ⟨.ag (csOf (mLit ⟨1, numV (textAt L s), z0⟩).row), [PB L (adv s)], ⟨rfl, rfl⟩, endOk ?_⟩
  simp only [tt, seval, rW]
 | false =>
 rw [if_neg (by rw [c3]; simp)] at h
 simp only [tt, seval]
 refine cS (l12Kind_d L hL hT s 4 (by omega) ha) (by decide) ?_ ?_ <;> simp only [tt, seval, PB]
 cases c4 : isK L s 4 with
 | true =>
  rw [if_pos c4] at h
  injection h with h; injection h with h1 h2; subst h1 h2
  simp only [tt, seval]
  refine cS (l12Text_d L hL hT s 4 (by omega) ha) (by decide) ?_ ?_ <;> simp only [tt, seval, PB]
  rw [mt_yes c4]
  refine cZ (TextValue_d (textAt L s)) (by decide) ?_ ?_ <;> simp only [tt, seval, Val.row]
  refine ⟨.ag (csOf (mLit ⟨2, 0, textAt L s⟩).row), [PB L (adv s)], ⟨rfl, rfl⟩, endOk ?_⟩
  simp only [tt, seval, rW]
 | false =>
 rw [if_neg (by rw [c4]; simp)] at h
 simp only [tt, seval, tkT, tkF, muT, muF]
 refine cS (l12Maybe_d L hL hT s 20 (by omega) (by omega) ha) (by decide) ?_ ?_ <;> simp only [tt, seval, PB]
 cases c20 : isKey L s 20 with
 | true =>
  rw [if_pos c20] at h
  injection h with h; injection h with h1 h2; subst h1 h2
  simp only [tt, seval, tkT, tkF, muT, muF]
  refine ⟨.ag (csOf (mLit zVal).row), [PB L (adv s)], ⟨rfl, rfl⟩, endOk ?_⟩
  simp only [tt, seval, rW]
 | false =>
 rw [if_neg (by rw [c20]; simp)] at h
 simp only [tt, seval, tkT, tkF, muT, muF, Bool.false_eq_true]
 refine cS (l12Maybe_d L hL hT s 21 (by omega) (by omega) ha) (by decide) ?_ ?_ <;> simp only [tt, seval, PB]
 cases c21 : isKey L s 21 with
 | true =>
  rw [if_pos c21] at h
  injection h with h; injection h with h1 h2; subst h1 h2
  simp only [tt, seval, tkT, tkF, muT, muF]
  refine cZ (BoolValue_t) (by decide) ?_ ?_ <;> simp only [tt, seval, Val.row]
  refine ⟨.ag (csOf (mLit ⟨3, 1, z0⟩).row), [PB L (adv s)], ⟨rfl, rfl⟩, endOk ?_⟩
  simp only [tt, seval, rW]
 | false =>
 rw [if_neg (by rw [c21]; simp)] at h
 simp only [tt, seval, tkT, tkF, muT, muF, Bool.false_eq_true]
 refine cS (l12Maybe_d L hL hT s 22 (by omega) (by omega) ha) (by decide) ?_ ?_ <;> simp only [tt, seval, PB]
 cases c22 : isKey L s 22 with
 | true =>
  rw [if_pos c22] at h
  injection h with h; injection h with h1 h2; subst h1 h2
  simp only [tt, seval, tkT, tkF, muT, muF]
  refine cZ (BoolValue_f) (by decide) ?_ ?_ <;> simp only [tt, seval, Val.row]
  refine ⟨.ag (csOf (mLit ⟨3, 0, z0⟩).row), [PB L (adv s)], ⟨rfl, rfl⟩, endOk ?_⟩
  simp only [tt, seval, rW]
 | false =>
 rw [if_neg (by rw [c22]; simp)] at h
 simp only [tt, seval, tkT, tkF, muT, muF, Bool.false_eq_true]
 refine cS (l12Kind_d L hL hT s 2 (by omega) ha) (by decide) ?_ ?_ <;> simp only [tt, seval, PB]
 cases c2 : isK L s 2 with
 | true =>
  rw [if_pos c2] at h
  simp only [tt, seval]
  refine cS (l12Text_d L hL hT s 2 (by omega) ha) (by decide) ?_ ?_ <;> simp only [tt, seval, PB]
  rw [mt_yes c2]
  simp only [tt, seval]
  have ha1 := adv_le (L := L) (isK_lt c2)
  refine cS (l12SignC_d L hL hT (adv s) 46 ha1) (by decide) ?_ ?_ <;> simp only [tt, seval, PB]
  cases cd : isSg L (adv s) 46 with
  | true =>
   rw [if_pos cd] at h
   injection h with h; injection h with h1 h2; subst h1 h2
   simp only [tt, seval, cd]
   refine cS (l12Step_d L hL hT (adv s) true (fun _ => isSg_lt cd)) (by decide) ?_ ?_ <;> simp only [tt, seval, PB, muT]
   refine cS (l12Text_d L hL hT (adv (adv s)) 2 (by omega) (adv_le (isSg_lt cd))) (by decide) ?_ ?_ <;> simp only [tt, seval, PB]
   refine ⟨.ag (csOf (mCol (textAt L s) (mText L 2 (adv (adv s))).1).row), [PB L ((mText L 2 (adv (adv s))).2)], ⟨rfl, rfl⟩, endOk ?_⟩
   simp only [tt, seval, rW]
  | false =>
   rw [if_neg (by rw [cd]; simp)] at h
   injection h with h; injection h with h1 h2; subst h1 h2
   simp only [tt, seval, cd]
   refine ⟨.ag (csOf (mCol z0 (textAt L s)).row), [PB L (adv s)], ⟨rfl, rfl⟩, endOk ?_⟩
   simp only [tt, seval, rW]
 | false =>
 simp only [tt, seval]
 refine cS (l12Maybe_d L hL hT s 19 (by omega) (by omega) ha) (by decide) ?_ ?_ <;> simp only [tt, seval, PB]
 cases c19 : isKey L s 19 with
 | true =>
  rw [if_neg (by rw [c2]; simp), if_neg (by rw [key_not_sg c19]; simp), if_pos c19] at h
  simp only [tt, seval, tkT, tkF, muT, muF]
  have ha1 := adv_le (L := L) (isKey_lt c19)
  have o1 : Ok L (adv s) (must (isSg L (adv s) 40) (adv s)) := Ok.must fun h => isSg_lt h
  refine cS (l12SignC_d L hL hT (adv s) 40 ha1) (by decide) ?_ ?_ <;> simp only [tt, seval, PB]
  refine cS (l12Step_d L hL hT (adv s) (isSg L (adv s) 40) (fun h => isSg_lt h)) (by decide) ?_ ?_ <;> simp only [tt, seval, PB]
  split at h
  ·cases h
  ·rename_i x t hx
   injection h with h; injection h with h1 h2; subst h1 h2
   have o2 := okq _ _ _ hx
   obtain ⟨d, its, frs, whs, ods, lim⟩ := x
   have c := hq _ _ _ hx (o1.2.1 ha1)
   rw [Query.row_mk] at c
   refine cS (c) (by decide) ?_ ?_ <;> simp only [tt, seval, PB]
   refine cS (l12SignC_d L hL hT t 41 (o2.2.1 (o1.2.1 ha1))) (by decide) ?_ ?_ <;> simp only [tt, seval, PB]
   refine cS (l12Step_d L hL hT t (isSg L t 41) (fun h => isSg_lt h)) (by decide) ?_ ?_ <;> simp only [tt, seval, PB]
   refine ⟨.ag (csOf (mKids 9 false [] [.mk d its frs whs ods lim]).row), [PB L (must (isSg L t 41) t)], ⟨rfl, rfl⟩, endOk ?_⟩
   simp only [tt, seval, rW]
 | false =>
 simp only [tt, seval, tkT, tkF, muT, muF, Bool.false_eq_true]
 rw [if_neg (by rw [c2]; simp)] at h
 refine cS (l12SignC_d L hL hT s 40 ha) (by decide) ?_ ?_ <;> simp only [tt, seval, PB]
 refine cS (l12Step_d L hL hT s (isSg L s 40) (fun h => isSg_lt h)) (by decide) ?_ ?_ <;> simp only [tt, seval, PB]
 cases cl : isSg L s 40 with
 | true =>
  obtain ⟨hb, hlt⟩ := isSg_lt cl
  rw [if_pos cl] at h
  have ha1 := adv_le (L := L) (isSg_lt cl)
  have hb1 : (adv s).b = false := hb
  split at h
  ·cases h
  ·rename_i x t hx
   injection h with h; injection h with h1 h2; subst h1 h2
   have o2 := ok1 _ _ _ hx
   obtain ⟨k0, o0, n0, v0, q0, m0, ks0, ss0⟩ := x
   have c := hf _ _ _ hx ha1
   rw [Expr.row_mk] at c
   simp only [tt, seval, tkT, tkF, muT, muF, hb1]
   have e0 : PB L (adv s) = [.sl L.length (L.flatMap Tok.row) none, .v (.int .i64 (adv s).a), .v (.bool false)] := by rw [PB, hb1]
   rw [e0] at c
   refine cS (c) (by decide) ?_ ?_ <;> simp only [tt, seval, PB, Val.row]
   refine cS (l12SignC_d L hL hT t 41 (o2.2.1 ha1)) (by decide) ?_ ?_ <;> simp only [tt, seval, PB]
   refine cS (l12Step_d L hL hT t (isSg L t 41) (fun h => isSg_lt h)) (by decide) ?_ ?_ <;> simp only [tt, seval, PB]
   refine ⟨.ag (csOf (Expr.mk k0 o0 n0 v0 q0 m0 ks0 ss0).row), [PB L (must (isSg L t 41) t)], ⟨rfl, rfl⟩, endOk ?_⟩
   simp only [tt, seval, rW, Val.row]
 | false =>
  rw [if_neg (by rw [cl]; simp), if_neg (by rw [c19]; simp)] at h
  injection h with h; injection h with h1 h2; subst h1 h2
  simp only [tt, seval, tkT, tkF, muT, muF, fl]
  refine ⟨.ag (csOf (zExpr).row), [PB L (fl s)], ⟨rfl, rfl⟩, endOk ?_⟩
  simp only [tt, seval, rW, fl]
def atS (Lo : Ob) : Nat := match Go.Dv.look Lo 9000 with | some (.str [_, .v (.int _ a), _]) => a.toNat | _ => 0
theorem ex_snoc (l : List Expr) (k0 o0 : Int) (n0 : Bool) (v0 : Val) (q0 m0 : ByteArray) (ks0 : List Expr) (ss0 : List Query) : l.flatMap Expr.row ++ [int k0, int o0, bool n0, int v0.kind, int v0.num, str v0.text, str q0, str m0, .sl ks0.length (ks0.flatMap Expr.row), .sl ss0.length (ss0.flatMap Query.row)] = (l ++ [Expr.mk k0 o0 n0 v0 q0 m0 ks0 ss0]).flatMap Expr.row := by
 rw [List.flatMap_append, List.flatMap_cons, List.flatMap_nil, List.append_nil, Expr.row_mk]
theorem ex_snoc1 (X : List D) (l : List Expr) (k0 o0 : Int) (n0 : Bool) (v0 : Val) (q0 m0 : ByteArray) (ks0 : List Expr) (ss0 : List Query) : X ++ l.flatMap Expr.row ++ [int k0, int o0, bool n0, int v0.kind, int v0.num, str v0.text, str q0, str m0, .sl ks0.length (ks0.flatMap Expr.row), .sl ss0.length (ss0.flatMap Query.row)] = X ++ (l ++ [Expr.mk k0 o0 n0 v0 q0 m0 ks0 ss0]).flatMap Expr.row := by
 rw [List.append_assoc, ex_snoc]
theorem ex_two (k0 o0 : Int) (n0 : Bool) (v0 : Val) (q0 m0 : ByteArray) (ks0 : List Expr) (ss0 : List Query) (k1 o1 : Int) (n1 : Bool) (v1 : Val) (q1 m1 : ByteArray) (ks1 : List Expr) (ss1 : List Query) : ([int k0, int o0, bool n0, int v0.kind, int v0.num, str v0.text, str q0, str m0, .sl ks0.length (ks0.flatMap Expr.row), .sl ss0.length (ss0.flatMap Query.row), int k1, int o1, bool n1, int v1.kind, int v1.num, str v1.text, str q1, str m1, .sl ks1.length (ks1.flatMap Expr.row), .sl ss1.length (ss1.flatMap Query.row)] : List D) = ([Expr.mk k0 o0 n0 v0 q0 m0 ks0 ss0, Expr.mk k1 o1 n1 v1 q1 m1 ks1 ss1]).flatMap Expr.row := by
 rw [List.flatMap_cons, List.flatMap_cons, List.flatMap_nil, List.append_nil, Expr.row_mk, Expr.row_mk]; rfl
set_option maxHeartbeats 1000000 in
theorem l12Within_step (L : List Tok) (hL : L.length ≤ 1048576) (hT : ∀ t ∈ L, t.text.size ≤ 1048576) {f : Nat → PM Expr} {q : PM Query} (ok1 : OkM (L := L) (f 1)) (okq : OkM (L := L) q) (hf : SpE L 34 [vi 1] (f 1)) (hq : SpQ L 124 q) (e : Expr) (not : Bool) : SpE L 117 [.ag (csOf e.row), vb not] (inM L f q e not) := by
 intro s x s' h ha
 unfold inM at h
 simp only at h
 have o1 : Ok L s (must (isSg L s 40) s) := Ok.must fun h => isSg_lt h
 have ha1 := o1.2.1 ha
 obtain ⟨k1, p1, n1, v1, q1, m1, ks1, ss1⟩ := e
 rw [Expr.row_mk]
 refine cl_of_d follows_mixed false Tryz.func117 rfl (by kernel_rfl) ?_
 simp only [Tryz.f117, tt, seval]
 refine cS (l12SignC_d L hL hT s 40 ha) (by decide) ?_ ?_ <;> simp only [tt, seval, PB, Val.row]
 refine cS (l12Step_d L hL hT s (isSg L s 40) (fun h => isSg_lt h)) (by decide) ?_ ?_ <;> simp only [tt, seval, PB]
 generalize must (isSg L s 40) s = u at *
 refine cS (l12Key_d L hL hT u 1 (by omega) (by omega) ha1) (by decide) ?_ ?_ <;> simp only [tt, seval, PB]
 cases c1 : isKey L u 1 with
 | true =>
  rw [if_pos c1] at h
  split at h
  ·cases h
  ·rename_i y t hy
   injection h with h; injection h with h1 h2; subst h1 h2
   have o2 := okq _ _ _ hy
   obtain ⟨d, its, frs, whs, ods, lim⟩ := y
   have c := hq _ _ _ hy ha1
   rw [Query.row_mk] at c
   simp only [tt, seval]
   refine cS (c) (by decide) ?_ ?_ <;> simp only [tt, seval, PB]
   refine cS (l12SignC_d L hL hT t 41 (o2.2.1 ha1)) (by decide) ?_ ?_ <;> simp only [tt, seval, PB]
   refine cS (l12Step_d L hL hT t (isSg L t 41) (fun h => isSg_lt h)) (by decide) ?_ ?_ <;> simp only [tt, seval, PB]
   refine ⟨.ag (csOf (mKids 8 not [Expr.mk k1 p1 n1 v1 q1 m1 ks1 ss1] [.mk d its frs whs ods lim]).row), [PB L (must (isSg L t 41) t)], ⟨rfl, rfl⟩, endOk ?_⟩
   simp only [tt, seval, rW, Val.row]
 | false =>
  rw [if_neg (by rw [c1]; simp)] at h
  unfold orsM at h
  split at h
  ·cases h
  rename_i l t hl
  split at hl
  ·cases hl
  rename_i y u1 hy
  injection h with h; injection h with h1 h2; subst h1 h2
  simp only [tt, seval, Bool.false_eq_true]
  have o2 := ok1 _ _ _ hy
  have ha2 := o2.2.1 ha1
  obtain ⟨k0, o0, n0, v0, q0, m0, ks0, ss0⟩ := y
  have c := hf _ _ _ hy ha1
  rw [Expr.row_mk] at c
  apply dDrawn_j4 8 0 2 6
  case h1 =>
   refine dDrawn.intro [29] (.take 1 (.br 0 (.br 2 (.br 3 (.take 4 .done) .nobr) .nobr) (.br 2 (.take 0 (.br 3 (.take 4 .done) .nobr)) .nobr))) (by kernel_rfl) ?_
   simp only [tt, seval]
   all_goals repeat' first | refine brC ?_ ?_ | refine brC2 ?_ ?_
   all_goals
    refine cS (c) (by decide) ?_ ?_
    ·simp only [tt, seval, PB, Val.row]
     try decide
    simp only [tt, seval, PB, Val.row]
   all_goals exact ⟨rfl, rfl, rfl, rfl, rfl, rfl⟩
  case h2 =>
   intro f' hj0 hj1 hj2 hj3
   try simp only [tt, seval, hj0, hj1, hj2, hj3]
   rw [ex_two k1 p1 n1 v1 q1 m1 ks1 ss1 k0 o0 n0 v0 q0 m0 ks0 ss0]
   refine dLoop.gh [.ren 30 39] ⟨by decide, by decide, ?_⟩
   refine dLoop0.intro (fun f' Lo p => ∃ (m : List Expr) (v : PS) (n : Nat), f' 8 = .c (.s 39 ((Expr.mk k1 p1 n1 v1 q1 m1 ks1 ss1) :: m).length) ∧ sepM L (f 1) n m v = some (l, t) ∧ v.a ≤ L.length ∧ m.length ≤ v.a + 1 ∧ Lo = [(9000, .str (PB L v)), (39, .arr 32 ((Expr.mk k1 p1 n1 v1 q1 m1 ks1 ss1) :: m).length (((Expr.mk k1 p1 n1 v1 q1 m1 ks1 ss1) :: m).flatMap Expr.row) none), (6, .str [.v (.int .i64 0), .v (.int .i64 0), .v (.bool false), .v (.int .i64 0), .v (.int .i64 0), .v (.string ByteArray.empty), .v (.string ByteArray.empty), .v (.string ByteArray.empty), .v (.slice none 0 0), .v (.slice none 0 0)])] ∧ p = none) (fun _ Lo _ => L.length - atS Lo) [(9000, .str (PB L u1)), (39, .arr 32 ([(Expr.mk k1 p1 n1 v1 q1 m1 ks1 ss1), (Expr.mk k0 o0 n0 v0 q0 m0 ks0 ss0)]).length (([(Expr.mk k1 p1 n1 v1 q1 m1 ks1 ss1), (Expr.mk k0 o0 n0 v0 q0 m0 ks0 ss0)]).flatMap Expr.row) none), (6, .str [.v (.int .i64 0), .v (.int .i64 0), .v (.bool false), .v (.int .i64 0), .v (.int .i64 0), .v (.string ByteArray.empty), .v (.string ByteArray.empty), .v (.string ByteArray.empty), .v (.slice none 0 0), .v (.slice none 0 0)])] none ⟨SubO.cons rfl (SubO.cons rfl (SubO.cons rfl (SubO.nil _))), PoSub.none _, ?_⟩ ?_
   ·simp only [tt, seval, hj0]
    exact ⟨[(Expr.mk k0 o0 n0 v0 q0 m0 ks0 ss0)], u1, L.length + 1, rfl, hl, ha2, by simp, rfl⟩
   ·rintro g' Lo p ⟨m, v, n, h8, hm, hv, hml, rfl, rfl⟩
    simp only [tt, seval] at h8
    try simp only [tt, seval, h8, hj1, hj2, hj3]
    refine cS (l12SignC_d L hL hT v 44 hv) (by decide) ?_ ?_ <;> simp only [tt, seval, PB, h8, hj1, hj2, hj3]
    cases n with
    | zero => cases hm
    | succ n =>
    rw [sepM] at hm
    cases c44 : isSg L v 44 with
    | true =>
     rw [if_pos c44] at hm
     split at hm
     ·cases hm
     rename_i z w hz
     obtain ⟨hb, hlt⟩ := isSg_lt c44
     have hav := adv_le (L := L) (isSg_lt c44)
     have o3 := ok1 _ _ _ hz
     have o3a : v.a + 1 ≤ w.a := o3.1
     have hw := o3.2.1 hav
     obtain ⟨k2, o2', n2, v2, q2, m2, ks2, ss2⟩ := z
     have c2 := hf _ _ _ hz hav
     rw [Expr.row_mk] at c2
     simp only [tt, seval, h8, hj1, hj2, hj3]
     refine cS (l12Step_d L hL hT v true (fun _ => isSg_lt c44)) (by decide) ?_ ?_ <;> simp only [tt, seval, PB, muT, h8, hj1, hj2, hj3]
     refine cS (c2) (by decide) ?_ ?_ <;> simp only [tt, seval, PB, h8, hj1, hj2, hj3, Val.row]
     refine ⟨by kernel_rfl, ⟨by simp only [maxLen]; omega, by omega⟩, ?_⟩
     rw [ex_snoc1, show m.length + 1 + 1 = (m ++ [Expr.mk k2 o2' n2 v2 q2 m2 ks2 ss2]).length + 1 by simp]
     exact ⟨_, none, SubO.cons rfl (SubO.cons rfl (SubO.cons rfl (SubO.nil _))), PoSub.none _, ⟨m ++ [Expr.mk k2 o2' n2 v2 q2 m2 ks2 ss2], w, n, rfl, hm, hw, by simp; omega, rfl, rfl⟩, by show L.length - ((w.a : Int)).toNat < L.length - ((v.a : Int)).toNat; omega⟩
    | false =>
     rw [if_neg (by rw [c44]; simp)] at hm
     injection hm with hm; injection hm with e1 e2; subst e1 e2
     simp only [tt, seval, Bool.false_eq_true, h8, hj1, hj2, hj3]
     refine cS (l12SignC_d L hL hT v 41 hv) (by decide) ?_ ?_ <;> simp only [tt, seval, PB, h8, hj1, hj2, hj3]
     refine cS (l12Step_d L hL hT v (isSg L v 41) (fun h => isSg_lt h)) (by decide) ?_ ?_ <;> simp only [tt, seval, PB, h8, hj1, hj2, hj3]
     refine ⟨.ag (csOf (mKids 7 not ((Expr.mk k1 p1 n1 v1 q1 m1 ks1 ss1) :: m) []).row), [PB L (must (isSg L v 41) v)], ⟨rfl, rfl⟩, endOk ?_⟩
     simp only [tt, seval, rW, Val.row]
theorem opsL_eq : ∀ w ∈ [1, 2, 4, 5, 6, 7], opsL w = (List.range' 1 14).filter (fun k : Nat => decide (bl (k : Int) = (w : Int))) := by decide +kernel
theorem lvE_bin (op : Int) (n : Bool) (v : Val) (q m : ByteArray) (ks : List Expr) (ss : List Query) : lvE (Expr.mk 4 op n v q m ks ss) = bl op := by simp [lvE, Expr.kind, Expr.op, lv]
theorem opTk_kind (op : Nat) (h : op ≤ 14) : (opTk (op : Int)).kind = if op = 1 ∨ op = 2 then 1 else 5 := by
 unfold opTk
 simp only
 by_cases h1 : op = 1 ∨ op = 2
 ·rw [if_pos h1, if_pos (by omega)]
 ·rw [if_neg h1, if_neg (by omega)]
theorem nx_op (L : List Tok) (s : PS) (op : Nat) (h : op ≤ 14) : (decide ((nxT L s 0).kind = (opTk (op : Int)).kind) && decide ((nxT L s 0).text = (opTk (op : Int)).text)) = opHit L s op := by
 rw [opTk_kind op h, opHit, nx_T L s 0 _ _ (by split <;> decide)]
 rfl
theorem wr1 {n : Nat} (h : n ≤ 1048576) : IntKind.i64.wrap ((n : Int) + 1) = ((n + 1 : Nat) : Int) := wrap_id (n := (n : Int) + 1) (by omega) (by omega)
theorem opF_no {L : List Tok} {s : PS} {w op : Nat} (h : op ≤ 14) (hb : ¬ bl (op : Int) = (w : Int)) : opIn L s ((List.range' op (15 - op)).filter (fun k : Nat => decide (bl (k : Int) = (w : Int)))) = opIn L s ((List.range' (op + 1) (15 - (op + 1))).filter (fun k : Nat => decide (bl (k : Int) = (w : Int)))) := by
 rw [show 15 - op = 15 - (op + 1) + 1 by omega, List.range'_succ, List.filter_cons, if_neg (by simpa using hb)]
theorem opF_yes {L : List Tok} {s : PS} {w op : Nat} (h : op ≤ 14) (hb : bl (op : Int) = (w : Int)) : opIn L s ((List.range' op (15 - op)).filter (fun k : Nat => decide (bl (k : Int) = (w : Int)))) = if opHit L s op = true then op else opIn L s ((List.range' (op + 1) (15 - (op + 1))).filter (fun k : Nat => decide (bl (k : Int) = (w : Int)))) := by
 rw [show 15 - op = 15 - (op + 1) + 1 by omega, List.range'_succ, List.filter_cons, if_pos (by simpa using hb), opIn]
set_option maxHeartbeats 1000000 in
theorem l12Op_d (L : List Tok) (hL : L.length ≤ 1048576) (hT : ∀ t ∈ L, t.text.size ≤ 1048576) (s : PS) (w : Nat) (hw : w ∈ [1, 2, 4, 5, 6, 7]) (ha : s.a ≤ L.length) : Cl Tryz.prog 75 [.c (.p 9000 0), vi w] [PB L s] fun r os => r = vi (opAt L s w) ∧ os = [PB L s] := by
 have ho : opAt L s w = opIn L s ((List.range' 1 (15 - 1)).filter (fun k : Nat => decide (bl (k : Int) = (w : Int)))) := by rw [opAt, opsL_eq w hw]
 refine cl_of_d follows_mixed false Tryz.func75 rfl (by kernel_rfl) ?_
 simp only [Tryz.f75, tt, seval]
 refine dLoop.intro (fun f' Lo p => ∃ op : Nat, f' 5 = vi op ∧ 1 ≤ op ∧ op ≤ 15 ∧ opAt L s w = opIn L s ((List.range' op (15 - op)).filter (fun k : Nat => decide (bl (k : Int) = (w : Int)))) ∧ Lo = [(9000, .str (PB L s))] ∧ p = none) (fun f' _ _ => (15 - ixS (f' 5)).toNat) [(9000, .str (PB L s))] none ⟨SubO.cons rfl (SubO.nil _), PoSub.none _, ?_⟩ ?_
 ·simp only [tt, seval]
  exact ⟨1, rfl, by omega, by omega, ho⟩
 ·rintro g' Lo p ⟨op, h5, h1, h2, hop, rfl, rfl⟩
  simp only [tt, seval] at h5
  by_cases hle : op ≤ 14
  ·have e0 : ((op : Int) ≤ 14) = True := eq_true (by omega)
   simp only [tt, seval, h5, e0]
   refine cZ (LevelOf_d (Expr.mk 4 op false zVal z0 z0 [] [])) (by decide) ?_ ?_ <;> simp only [tt, seval, lvE_bin, Expr.row_mk, zVal, z0, bae, Val.row, List.flatMap_nil, List.length_nil, h5]
   by_cases hb : bl (op : Int) = (w : Int)
   ·have hop := hop.trans (opF_yes hle hb)
    simp only [tt, seval, decide_eq_true hb, hb, h5]
    refine cZ (l10Op_d op) (by decide) ?_ ?_ <;> simp only [tt, seval, Tok.row, h5]
    refine cS (l12Next_d L hL hT s 0 (by omega) ha) (by decide) ?_ ?_ <;> simp only [tt, seval, PB, Tok.row, h5]
    have hh := nx_op L s op hle
    refine And.intro (fun hk => ?_) (fun hk => ?_)
    ·rw [hk, Bool.true_and] at hh
     simp only [tt, seval, hk, h5]
     by_cases hx : (nxT L s 0).text = (opTk (op : Int)).text
     ·rw [decide_eq_true hx] at hh
      simp only [tt, seval, hx, decide_eq_true, h5]
      refine ⟨vi op, [PB L s], ⟨by rw [hop, if_pos hh.symm], rfl⟩, endOk ?_⟩
      simp only [tt, seval, PB]
     ·rw [decide_eq_false hx] at hh
      rw [if_neg (by rw [← hh]; simp)] at hop
      simp only [tt, seval, hx, decide_eq_false, h5]
      refine ⟨[(9000, .str (PB L s))], none, SubO.cons rfl (SubO.nil _), PoSub.none _, ⟨op + 1, by rw [wr1 (n := op) (by omega)], by omega, by omega, hop, rfl, rfl⟩, ?_⟩
      rw [wr1 (n := op) (by omega)]
      show (15 - ((op + 1 : Nat) : Int)).toNat < (15 - (op : Int)).toNat
      omega
    ·rw [hk, Bool.false_and] at hh
     rw [if_neg (by rw [← hh]; simp)] at hop
     simp only [tt, seval, hk, h5]
     refine ⟨[(9000, .str (PB L s))], none, SubO.cons rfl (SubO.nil _), PoSub.none _, ⟨op + 1, by rw [wr1 (n := op) (by omega)], by omega, by omega, hop, rfl, rfl⟩, ?_⟩
     rw [wr1 (n := op) (by omega)]
     show (15 - ((op + 1 : Nat) : Int)).toNat < (15 - (op : Int)).toNat
     omega
   ·have hop := hop.trans (opF_no hle hb)
    simp only [tt, seval, decide_eq_false hb, hb, h5]
    refine ⟨[(9000, .str (PB L s))], none, SubO.cons rfl (SubO.nil _), PoSub.none _, ⟨op + 1, by rw [wr1 (n := op) (by omega)], by omega, by omega, hop, rfl, rfl⟩, ?_⟩
    rw [wr1 (n := op) (by omega)]
    show (15 - ((op + 1 : Nat) : Int)).toNat < (15 - (op : Int)).toNat
    omega
  ·have e0 : ((op : Int) ≤ 14) = False := eq_false (by omega)
   simp only [tt, seval, h5, e0]
   have e : opAt L s w = 0 := by rw [hop, show 15 - op = 0 by omega]; rfl
   refine ⟨vi 0, [PB L s], ⟨by rw [e]; rfl, rfl⟩, endOk ?_⟩
   simp only [tt, seval, PB]
set_option maxHeartbeats 2000000 in
theorem l12Cmp_step (L : List Tok) (hL : L.length ≤ 1048576) (hT : ∀ t ∈ L, t.text.size ≤ 1048576) {f : Nat → PM Expr} {q : PM Query} (ok : ∀ lv, OkM (L := L) (f lv)) (okq : OkM (L := L) q) (hf1 : SpE L 34 [vi 1] (f 1)) (hf5 : SpE L 34 [vi 5] (f 5)) (hq : SpQ L 124 q) : SpE L 71 [] (cmpM L f q) := by
 intro s x s' h ha
 unfold cmpM at h
 split at h
 ·cases h
 rename_i e s1 he
 have o1 := ok 5 _ _ _ he
 have ha1 := o1.2.1 ha
 obtain ⟨k1, p1, n1, v1, q1, m1, ks1, ss1⟩ := e
 have c1 := hf5 _ _ _ he ha
 rw [Expr.row_mk] at c1
 refine cl_of_d follows_mixed false Tryz.func71 rfl (by kernel_rfl) ?_
 simp only [Tryz.f71, tt, seval]
 refine cS (c1) (by decide) ?_ ?_ <;> simp only [tt, seval, PB, Val.row]
 refine cS (l12Op_d L hL hT s1 4 (by decide) ha1) (by decide) ?_ ?_ <;> simp only [tt, seval, PB]
 by_cases hop : opAt L s1 4 = 0
 ·have e0 : ((0 : Int) < ((opAt L s1 4 : Nat) : Int)) = False := eq_false (by omega)
  rw [if_pos hop] at h
  unfold cmpT at h
  simp only at h
  simp only [tt, seval, e0]
  refine cS (l12Maybe_d L hL hT s1 16 (by omega) (by omega) ha1) (by decide) ?_ ?_ <;> simp only [tt, seval, PB]
  cases c16 : isKey L s1 16 with
  | true =>
   rw [if_pos c16] at h
   injection h with h; injection h with h1 h2; subst h1 h2
   simp only [tt, seval, tkT, tkF, muT, muF]
   have ha2 := adv_le (L := L) (isKey_lt c16)
   refine cS (l12Maybe_d L hL hT (adv s1) 15 (by omega) (by omega) ha2) (by decide) ?_ ?_ <;> simp only [tt, seval, PB]
   have o3 : Ok L (adv s1) (tkIf (isKey L (adv s1) 15) (adv s1)) := Ok.tkIf fun h => isKey_lt h
   have ha3 := o3.2.1 ha2
   generalize tkIf (isKey L (adv s1) 15) (adv s1) = u at *
   refine cS (l12Key_d L hL hT u 20 (by omega) (by omega) ha3) (by decide) ?_ ?_ <;> simp only [tt, seval, PB]
   refine cS (l12Step_d L hL hT u (isKey L u 20) (fun h => isKey_lt h)) (by decide) ?_ ?_ <;> simp only [tt, seval, PB]
   refine ⟨.ag (csOf (mKids 5 (isKey L (adv s1) 15) [(Expr.mk k1 p1 n1 v1 q1 m1 ks1 ss1)] []).row), [PB L (must (isKey L u 20) u)], ⟨rfl, rfl⟩, endOk ?_⟩
   simp only [tt, seval, rW, Val.row]
  | false =>
  rw [if_neg (by rw [c16]; simp)] at h
  simp only [tt, seval, tkT, tkF, muT, muF, Bool.false_eq_true]
  refine cS (l12Maybe_d L hL hT s1 15 (by omega) (by omega) ha1) (by decide) ?_ ?_ <;> simp only [tt, seval, PB]
  have o2 : Ok L s1 (tkIf (isKey L s1 15) s1) := Ok.tkIf fun h => isKey_lt h
  have ha2 := o2.2.1 ha1
  generalize tkIf (isKey L s1 15) s1 = u at *
  generalize isKey L s1 15 = n at *
  refine cS (l12Maybe_d L hL hT u 18 (by omega) (by omega) ha2) (by decide) ?_ ?_ <;> simp only [tt, seval, PB]
  cases c18 : isKey L u 18 with
  | true =>
   rw [if_pos c18] at h
   split at h
   ·cases h
   rename_i lo s2 hlo
   split at h
   ·cases h
   rename_i hi s3 hhi
   injection h with h; injection h with h1 h2; subst h1 h2
   simp only [tt, seval, tkT, tkF, muT, muF]
   have ha3 := adv_le (L := L) (isKey_lt c18)
   have ha4 := (ok 5 _ _ _ hlo).2.1 ha3
   obtain ⟨k2, p2, n2, v2, q2, m2, ks2, ss2⟩ := lo
   have c2 := hf5 _ _ _ hlo ha3
   rw [Expr.row_mk] at c2
   refine cS (c2) (by decide) ?_ ?_ <;> simp only [tt, seval, PB, Val.row]
   refine cS (l12Key_d L hL hT s2 13 (by omega) (by omega) ha4) (by decide) ?_ ?_ <;> simp only [tt, seval, PB]
   refine cS (l12Step_d L hL hT s2 (isKey L s2 13) (fun h => isKey_lt h)) (by decide) ?_ ?_ <;> simp only [tt, seval, PB]
   have o5 : Ok L s2 (must (isKey L s2 13) s2) := Ok.must fun h => isKey_lt h
   have ha5 := o5.2.1 ha4
   generalize must (isKey L s2 13) s2 = w at *
   obtain ⟨k3, p3, n3, v3, q3, m3, ks3, ss3⟩ := hi
   have c3 := hf5 _ _ _ hhi ha5
   rw [Expr.row_mk] at c3
   apply dDrawn_j1 2
   case h1 =>
    refine dDrawn.intro [48] (.take 0 (.take 3 (.br 1 (.br 2 (.br 4 (.br 5 (.take 6 (.br 7 .done .nobr)) .nobr) .nobr) (.br 4 (.take 2 (.br 5 (.take 6 (.br 7 .done .nobr)) .nobr)) .nobr)) (.br 2 (.br 1 (.br 4 (.br 5 (.take 6 (.br 7 .done .nobr)) .nobr) .nobr) (.br 4 (.take 1 (.br 5 (.take 6 (.br 7 .done .nobr)) .nobr)) .nobr)) (.br 4 (.take 1 (.take 2 (.br 5 (.take 6 (.br 7 .done .nobr)) .nobr))) .nobr))))) (by kernel_rfl) ?_
    simp only [tt, seval]
    all_goals repeat' first | refine brC ?_ ?_ | refine brC2 ?_ ?_
    all_goals
     refine cS (c3) (by decide) ?_ ?_
     ·simp only [tt, seval, PB, Val.row]
      try decide
     simp only [tt, seval, PB, Val.row]
    all_goals exact ⟨rfl, rfl, rfl⟩
   case h2 =>
    intro f' hj0
    try simp only [tt, seval, hj0]
    refine ⟨.ag (csOf (mKids 6 n [(Expr.mk k1 p1 n1 v1 q1 m1 ks1 ss1), (Expr.mk k2 p2 n2 v2 q2 m2 ks2 ss2), (Expr.mk k3 p3 n3 v3 q3 m3 ks3 ss3)] []).row), [PB L (s3)], ⟨rfl, rfl⟩, endOk ?_⟩
    simp only [tt, seval, rW, Val.row, hj0]
  | false =>
  rw [if_neg (by rw [c18]; simp)] at h
  simp only [tt, seval, tkT, tkF, muT, muF, Bool.false_eq_true]
  refine cS (l12Maybe_d L hL hT u 17 (by omega) (by omega) ha2) (by decide) ?_ ?_ <;> simp only [tt, seval, PB]
  cases c17 : isKey L u 17 with
  | true =>
   rw [if_pos c17] at h
   simp only [tt, seval, tkT, tkF, muT, muF]
   have ha3 := adv_le (L := L) (isKey_lt c17)
   have c2 := l12Within_step L hL hT (ok 1) okq hf1 hq (Expr.mk k1 p1 n1 v1 q1 m1 ks1 ss1) n _ _ _ h ha3
   obtain ⟨k2, p2, n2, v2, q2, m2, ks2, ss2⟩ := x
   rw [Expr.row_mk, Expr.row_mk] at c2
   refine cS (c2) (by decide) ?_ ?_ <;> simp only [tt, seval, PB, Val.row]
   refine ⟨.ag (csOf ((Expr.mk k2 p2 n2 v2 q2 m2 ks2 ss2)).row), [PB L (s')], ⟨rfl, rfl⟩, endOk ?_⟩
   simp only [tt, seval, rW, Val.row]
  | false =>
  rw [if_neg (by rw [c17]; simp)] at h
  injection h with h; injection h with h1 h2; subst h1 h2
  simp only [tt, seval, tkT, tkF, muT, muF, Bool.false_eq_true]
  cases n with
  | true =>
   simp only [tt, seval]
   refine ⟨.ag (csOf ((Expr.mk k1 p1 n1 v1 q1 m1 ks1 ss1)).row), [PB L (⟨u.a, u.b || true⟩)], ⟨rfl, rfl⟩, endOk ?_⟩
   simp only [tt, seval, rW, Val.row, Bool.or_true]
  | false =>
   simp only [tt, seval, Bool.false_eq_true]
   refine ⟨.ag (csOf ((Expr.mk k1 p1 n1 v1 q1 m1 ks1 ss1)).row), [PB L (⟨u.a, u.b⟩)], ⟨rfl, rfl⟩, endOk ?_⟩
   simp only [tt, seval, rW, Val.row]
 ·have e0 : ((0 : Int) < ((opAt L s1 4 : Nat) : Int)) = True := eq_true (by omega)
  rw [if_neg hop] at h
  split at h
  ·cases h
  rename_i y s2 hy
  injection h with h; injection h with h1 h2; subst h1 h2
  simp only [tt, seval, e0]
  refine cS (l12Step_d L hL hT s1 true (fun _ => opAt_lt hop)) (by decide) ?_ ?_ <;> simp only [tt, seval, PB, muT]
  have ha2 := adv_le (L := L) (opAt_lt hop)
  obtain ⟨k2, p2, n2, v2, q2, m2, ks2, ss2⟩ := y
  have c2 := hf5 _ _ _ hy ha2
  rw [Expr.row_mk] at c2
  apply dDrawn_j1 2
  case h1 =>
   refine dDrawn.intro [19] (.take 0 (.take 2 (.br 1 (.br 3 (.br 4 (.take 5 (.br 6 .done .nobr)) .nobr) .nobr) (.br 3 (.take 1 (.br 4 (.take 5 (.br 6 .done .nobr)) .nobr)) .nobr)))) (by kernel_rfl) ?_
   simp only [tt, seval]
   all_goals repeat' first | refine brC ?_ ?_ | refine brC2 ?_ ?_
   all_goals
    refine cS (c2) (by decide) ?_ ?_
    ·simp only [tt, seval, PB, Val.row]
     try decide
    simp only [tt, seval, PB, Val.row]
   all_goals exact ⟨rfl, rfl, rfl⟩
  case h2 =>
   intro f' hj0
   try simp only [tt, seval, hj0]
   refine ⟨.ag (csOf (mBin (opAt L s1 4) (Expr.mk k1 p1 n1 v1 q1 m1 ks1 ss1) (Expr.mk k2 p2 n2 v2 q2 m2 ks2 ss2)).row), [PB L (s2)], ⟨rfl, rfl⟩, endOk ?_⟩
   simp only [tt, seval, rW, Val.row, hj0]
set_option maxHeartbeats 2000000 in
theorem l12Expr3 (L : List Tok) (hL : L.length ≤ 1048576) (hT : ∀ t ∈ L, t.text.size ≤ 1048576) {f : Nat → PM Expr} {q : PM Query} (ok : ∀ lv, OkM (L := L) (f lv)) (okq : OkM (L := L) q) (hf : ∀ lv : Nat, 1 ≤ lv → lv ≤ 8 → SpE L 34 [vi lv] (f lv)) (hp : SpE L 74 [] (f 9)) (hq : SpQ L 124 q) : SpE L 34 [vi (3 : Nat)] (stepE L f q 3) := by
 intro s x s' h ha
 unfold stepE at h
 simp only [if_true] at h
 refine cl_of_d follows_mixed false Tryz.func34 rfl (by kernel_rfl) ?_
 simp only [Tryz.f34, tt, seval]
 refine cS (l12Maybe_d L hL hT s 15 (by omega) (by omega) ha) (by decide) ?_ ?_ <;> simp only [tt, seval, PB]
 cases c15 : isKey L s 15 with
 | true =>
  rw [if_pos c15] at h
  split at h
  ·cases h
  rename_i e s1 he
  injection h with h; injection h with h1 h2; subst h1 h2
  simp only [tt, seval, tkT, tkF, muT, muF]
  obtain ⟨k1, p1, n1, v1, q1, m1, ks1, ss1⟩ := e
  have c1 := hf 3 (by omega) (by omega) _ _ _ he (adv_le (isKey_lt c15))
  rw [Expr.row_mk] at c1
  refine cS (c1) (by decide) ?_ ?_ <;> simp only [tt, seval, PB, Val.row]
  refine ⟨.ag (csOf (mUn 15 (Expr.mk k1 p1 n1 v1 q1 m1 ks1 ss1)).row), [PB L (s1)], ⟨rfl, rfl⟩, endOk ?_⟩
  simp only [tt, seval, rW, Val.row]
 | false =>
  rw [if_neg (by rw [c15]; simp)] at h
  simp only [tt, seval, tkT, tkF, muT, muF, Bool.false_eq_true]
  obtain ⟨k1, p1, n1, v1, q1, m1, ks1, ss1⟩ := x
  have c1 := hf 4 (by omega) (by omega) _ _ _ h ha
  rw [Expr.row_mk] at c1
  refine cS (c1) (by decide) ?_ ?_ <;> simp only [tt, seval, PB, Val.row]
  refine ⟨.ag (csOf ((Expr.mk k1 p1 n1 v1 q1 m1 ks1 ss1)).row), [PB L (s')], ⟨rfl, rfl⟩, endOk ?_⟩
  simp only [tt, seval, rW, Val.row]
theorem l12Expr4 (L : List Tok) (hL : L.length ≤ 1048576) (hT : ∀ t ∈ L, t.text.size ≤ 1048576) {f : Nat → PM Expr} {q : PM Query} (ok : ∀ lv, OkM (L := L) (f lv)) (okq : OkM (L := L) q) (hf : ∀ lv : Nat, 1 ≤ lv → lv ≤ 8 → SpE L 34 [vi lv] (f lv)) (hp : SpE L 74 [] (f 9)) (hq : SpQ L 124 q) : SpE L 34 [vi (4 : Nat)] (stepE L f q 4) := by
 intro s x s' h ha
 have h : cmpM L f q s = some (x, s') := h
 refine cl_of_d follows_mixed false Tryz.func34 rfl (by kernel_rfl) ?_
 simp only [Tryz.f34, tt, seval]
 obtain ⟨k1, p1, n1, v1, q1, m1, ks1, ss1⟩ := x
 have c1 := l12Cmp_step L hL hT ok okq (hf 1 (by omega) (by omega)) (hf 5 (by omega) (by omega)) hq _ _ _ h ha
 rw [Expr.row_mk] at c1
 refine cS (c1) (by decide) ?_ ?_ <;> simp only [tt, seval, PB, Val.row]
 refine ⟨.ag (csOf ((Expr.mk k1 p1 n1 v1 q1 m1 ks1 ss1)).row), [PB L (s')], ⟨rfl, rfl⟩, endOk ?_⟩
 simp only [tt, seval, rW, Val.row]
set_option maxHeartbeats 2000000 in
theorem l12Expr8 (L : List Tok) (hL : L.length ≤ 1048576) (hT : ∀ t ∈ L, t.text.size ≤ 1048576) {f : Nat → PM Expr} {q : PM Query} (ok : ∀ lv, OkM (L := L) (f lv)) (okq : OkM (L := L) q) (hf : ∀ lv : Nat, 1 ≤ lv → lv ≤ 8 → SpE L 34 [vi lv] (f lv)) (hp : SpE L 74 [] (f 9)) (hq : SpQ L 124 q) : SpE L 34 [vi (8 : Nat)] (stepE L f q 8) := by
 intro s x s' h ha
 unfold stepE at h
 simp only [Nat.reduceEqDiff, if_false, if_true] at h
 refine cl_of_d follows_mixed false Tryz.func34 rfl (by kernel_rfl) ?_
 simp only [Tryz.f34, tt, seval]
 refine cS (l12SignC_d L hL hT s 45 ha) (by decide) ?_ ?_ <;> simp only [tt, seval, PB]
 cases c45 : isSg L s 45 with
 | true =>
  rw [if_pos c45] at h
  split at h
  ·cases h
  rename_i e s1 he
  injection h with h; injection h with h1 h2; subst h1 h2
  simp only [tt, seval]
  refine cS (l12Step_d L hL hT s true (fun _ => isSg_lt c45)) (by decide) ?_ ?_ <;> simp only [tt, seval, PB, muT]
  obtain ⟨k1, p1, n1, v1, q1, m1, ks1, ss1⟩ := e
  have c1 := hf 8 (by omega) (by omega) _ _ _ he (adv_le (isSg_lt c45))
  rw [Expr.row_mk] at c1
  refine cS (c1) (by decide) ?_ ?_ <;> simp only [tt, seval, PB, Val.row]
  refine ⟨.ag (csOf (mUn 16 (Expr.mk k1 p1 n1 v1 q1 m1 ks1 ss1)).row), [PB L (s1)], ⟨rfl, rfl⟩, endOk ?_⟩
  simp only [tt, seval, rW, Val.row]
 | false =>
  rw [if_neg (by rw [c45]; simp)] at h
  simp only [tt, seval, Bool.false_eq_true]
  obtain ⟨k1, p1, n1, v1, q1, m1, ks1, ss1⟩ := x
  have c1 := hp _ _ _ h ha
  rw [Expr.row_mk] at c1
  refine cS (c1) (by decide) ?_ ?_ <;> simp only [tt, seval, PB, Val.row]
  refine ⟨.ag (csOf ((Expr.mk k1 p1 n1 v1 q1 m1 ks1 ss1)).row), [PB L (s')], ⟨rfl, rfl⟩, endOk ?_⟩
  simp only [tt, seval, rW, Val.row]
theorem opAt_bad {L : List Tok} {s : PS} (w : Nat) (h : s.b = true) : opAt L s w = 0 := by
 cases Nat.eq_zero_or_pos (opAt L s w) with
 | inl e => exact e
 | inr e => have := (opAt_lt (L := L) (s := s) (lv := w) (by omega)).1; rw [h] at this; cases this
set_option maxHeartbeats 4000000 in
theorem l12ExprB (L : List Tok) (hL : L.length ≤ 1048576) (hT : ∀ t ∈ L, t.text.size ≤ 1048576) {f : Nat → PM Expr} {q : PM Query} (ok : ∀ lv, OkM (L := L) (f lv)) (okq : OkM (L := L) q) (hf : ∀ lv : Nat, 1 ≤ lv → lv ≤ 8 → SpE L 34 [vi lv] (f lv)) (hp : SpE L 74 [] (f 9)) (hq : SpQ L 124 q) (w : Nat) (hw : w ∈ [1, 2, 5, 6, 7]) : SpE L 34 [vi w] (stepE L f q w) := by
 intro s x s' h ha
 have hw2 : w ∈ [1, 2, 4, 5, 6, 7] := by simp only [List.mem_cons, List.not_mem_nil, or_false] at hw ⊢; omega
 have hw3 : ¬ w = 3 ∧ ¬ w = 4 ∧ ¬ w = 8 ∧ ¬ w = 9 ∧ 1 ≤ w ∧ w ≤ 7 := by simp only [List.mem_cons, List.not_mem_nil, or_false] at hw; omega
 obtain ⟨w3, w4, w8, w9, w1, w7⟩ := hw3
 have g3 : decide ((w : Int) = 3) = false := decide_eq_false (by omega)
 have g4 : decide ((w : Int) = 4) = false := decide_eq_false (by omega)
 have g8 : decide ((w : Int) = 8) = false := decide_eq_false (by omega)
 have p3 : ((w : Int) = 3) = False := eq_false (by omega)
 have p4 : ((w : Int) = 4) = False := eq_false (by omega)
 have p8 : ((w : Int) = 8) = False := eq_false (by omega)
 have ew : IntKind.i64.wrap ((w : Int) + 1) = ((w + 1 : Nat) : Int) := wrap_id (n := (w : Int) + 1) (by omega) (by omega)
 unfold stepE at h
 rw [if_neg w3, if_neg w4, if_neg w8, if_neg w9] at h
 split at h
 ·cases h
 rename_i e s1 he
 have o1 := ok (w + 1) _ _ _ he
 have ha1 := o1.2.1 ha
 obtain ⟨k1, p1, n1, v1, q1, m1, ks1, ss1⟩ := e
 have c1 := hf (w + 1) (by omega) (by omega) _ _ _ he ha
 rw [Expr.row_mk] at c1
 refine cl_of_d follows_mixed false Tryz.func34 rfl (by kernel_rfl) ?_
 simp only [Tryz.f34, tt, seval]
 simp only [tt, seval, g3, g4, g8, p3, p4, p8, ew]
 refine cS (c1) (by decide) ?_ ?_ <;> simp (config := { maxSteps := 2000000 }) only [tt, seval, PB, Val.row, ew]
 refine dLoop.gh [] ?_
 refine dLoop0.introR (fun f' Lo p => ∃ (e : Expr) (v : PS) (n : Nat), chainM L (f (w + 1)) w n e v = some (x, s') ∧ v.a ≤ L.length ∧ (Lo = [(9000, .str (PB L v)), (5, .str (csOf (e).row)), (4, .str [.v (.int .i64 0), .v (.int .i64 0), .v (.bool false), .v (.int .i64 0), .v (.int .i64 0), .v (.string ByteArray.empty), .v (.string ByteArray.empty), .v (.string ByteArray.empty), .v (.slice none 0 0), .v (.slice none 0 0)])] ∨ (∃ (op : Nat) (a b : Expr), e = mBin op a b ∧ Lo = [(9000, .str (PB L v)), (5, .str [.v (.int .i64 4), .v (.int .i64 op), .v (.bool false), .v (.int .i64 0), .v (.int .i64 0), .v (.string ByteArray.empty), .v (.string ByteArray.empty), .v (.string ByteArray.empty), .s 10056 2, .v (.slice none 0 0)]), (10056, .arr 32 2 ([a, b].flatMap Expr.row) none), (4, .str [.v (.int .i64 0), .v (.int .i64 0), .v (.bool false), .v (.int .i64 0), .v (.int .i64 0), .v (.string ByteArray.empty), .v (.string ByteArray.empty), .v (.string ByteArray.empty), .v (.slice none 0 0), .v (.slice none 0 0)])])) ∧ p = none) (fun _ Lo _ => L.length - atS Lo) [(9000, .str (PB L s1)), (5, .str (csOf ((Expr.mk k1 p1 n1 v1 q1 m1 ks1 ss1)).row)), (4, .str [.v (.int .i64 0), .v (.int .i64 0), .v (.bool false), .v (.int .i64 0), .v (.int .i64 0), .v (.string ByteArray.empty), .v (.string ByteArray.empty), .v (.string ByteArray.empty), .v (.slice none 0 0), .v (.slice none 0 0)])] none ⟨by rw [Expr.row_mk]; exact SubO.cons rfl (SubO.cons rfl (SubO.cons rfl (SubO.nil _))), PoSub.none _, ?_⟩ ?_
 ·simp only [tt, seval]
  exact ⟨(Expr.mk k1 p1 n1 v1 q1 m1 ks1 ss1), s1, L.length + 1, h, ha1, .inl rfl⟩
 ·rintro g' Lo p ⟨e, v, n, hm, hv, rfl | ⟨op, a, b, rfl, rfl⟩, rfl⟩
  ·obtain ⟨k1, p1, n1, v1, q1, m1, ks1, ss1⟩ := e
   rw [Expr.row_mk]
   simp only [tt, seval, Val.row]
   cases n with
   | zero => cases hm
   | succ n =>
   rw [chainM] at hm
   have fini : opAt L v w = 0 → ((Expr.mk k1 p1 n1 v1 q1 m1 ks1 ss1) = x ∧ v = s') := fun e0 => by
    rw [if_pos e0] at hm
    injection hm with hm; injection hm with e1 e2; exact ⟨e1, e2⟩
   cases hb : v.b with
   | true =>
    obtain ⟨e1, e2⟩ := fini (opAt_bad w hb)
    subst e1 e2
    simp only [tt, seval, PB, hb, Val.row]
    refine ⟨.ag (csOf ((Expr.mk k1 p1 n1 v1 q1 m1 ks1 ss1)).row), [PB L v], ⟨rfl, by rw [PB, hb]⟩, endOk ?_⟩
    simp only [tt, seval, rW, Val.row, hb]
   | false =>
   have hpb : PB L v = [.sl L.length (L.flatMap Tok.row) none, .v (.int .i64 v.a), .v (.bool false)] := by rw [PB, hb]
   have cop := l12Op_d L hL hT v w hw2 hv
   rw [hpb] at cop
   simp only [tt, seval, PB, hb, Val.row]
   refine cS (cop) (by decide) ?_ ?_ <;> simp only [tt, seval, PB, hb, Val.row]
   by_cases hop : opAt L v w = 0
   ·obtain ⟨e1, e2⟩ := fini hop
    subst e1 e2
    have e0 : decide (((opAt L v w : Nat) : Int) = 0) = true := decide_eq_true (by omega)
    simp only [tt, seval, hop, e0, PB, hb, Val.row]
    refine ⟨.ag (csOf ((Expr.mk k1 p1 n1 v1 q1 m1 ks1 ss1)).row), [PB L v], ⟨rfl, by rw [PB, hb]⟩, endOk ?_⟩
    simp only [tt, seval, rW, Val.row, hb]
   ·have e0 : decide (((opAt L v w : Nat) : Int) = 0) = false := decide_eq_false (by omega)
    have e1 : (((opAt L v w : Nat) : Int) = 0) = False := eq_false (by omega)
    rw [if_neg hop] at hm
    split at hm
    ·cases hm
    rename_i z u hz
    have hav := adv_le (L := L) (opAt_lt hop)
    have o3 := ok (w + 1) _ _ _ hz
    have o3a : v.a + 1 ≤ u.a := o3.1
    have hu := o3.2.1 hav
    have hlt := (opAt_lt hop).2
    obtain ⟨k2, p2, n2, v2, q2, m2, ks2, ss2⟩ := z
    have c2 := hf (w + 1) (by omega) (by omega) _ _ _ hz hav
    rw [Expr.row_mk] at c2
    have cst := l12Step_d L hL hT v true (fun _ => opAt_lt hop)
    rw [hpb] at cst
    simp only [tt, seval, e0, e1]
    refine cS (cst) (by decide) ?_ ?_ <;> simp only [tt, seval, PB, muT, Val.row]
    apply dDrawn_j1 5
    case h1 =>
     refine dDrawn.intro [55] (.take 0 (.take 2 (.take 3 (.take 4 (.br 1 (.br 5 (.br 6 (.take 7 (.br 8 .done .nobr)) .nobr) .nobr) (.br 5 (.take 1 (.br 6 (.take 7 (.br 8 .done .nobr)) .nobr)) .nobr)))))) (by kernel_rfl) ?_
     simp only [tt, seval]
     all_goals repeat' first | refine brC ?_ ?_ | refine brC2 ?_ ?_
     all_goals
      refine cS (c2) (by decide) ?_ ?_
      ·simp (config := { maxSteps := 2000000 }) only [tt, seval, PB, Val.row, ew]
       try decide
      simp (config := { maxSteps := 2000000 }) only [tt, seval, PB, Val.row, ew]
     all_goals exact ⟨rfl, rfl, rfl⟩
    case h2 =>
     intro f' hj0
     try simp only [tt, seval, hj0]
     refine ⟨[.ren 56 10056], by decide, by decide, ?_⟩
     simp only [tt, seval]
     refine ⟨[(9000, .str (PB L u)), (5, .str [.v (.int .i64 4), .v (.int .i64 (opAt L v w)), .v (.bool false), .v (.int .i64 0), .v (.int .i64 0), .v (.string ByteArray.empty), .v (.string ByteArray.empty), .v (.string ByteArray.empty), .s 10056 2, .v (.slice none 0 0)]), (10056, .arr 32 2 ([(Expr.mk k1 p1 n1 v1 q1 m1 ks1 ss1), (Expr.mk k2 p2 n2 v2 q2 m2 ks2 ss2)].flatMap Expr.row) none), (4, .str [.v (.int .i64 0), .v (.int .i64 0), .v (.bool false), .v (.int .i64 0), .v (.int .i64 0), .v (.string ByteArray.empty), .v (.string ByteArray.empty), .v (.string ByteArray.empty), .v (.slice none 0 0), .v (.slice none 0 0)])], none, by simp only [rW, Val.row]; exact SubO.cons rfl (SubO.cons rfl (SubO.cons rfl (SubO.cons rfl (SubO.nil _)))), PoSub.none _, ⟨mBin (opAt L v w) (Expr.mk k1 p1 n1 v1 q1 m1 ks1 ss1) (Expr.mk k2 p2 n2 v2 q2 m2 ks2 ss2), u, n, hm, hu, .inr ⟨_, (Expr.mk k1 p1 n1 v1 q1 m1 ks1 ss1), (Expr.mk k2 p2 n2 v2 q2 m2 ks2 ss2), rfl, rfl⟩, rfl⟩, ?_⟩
     show L.length - ((u.a : Int)).toNat < L.length - ((v.a : Int)).toNat
     omega
  ·skip
   simp only [tt, seval, Val.row]
   cases n with
   | zero => cases hm
   | succ n =>
   rw [chainM] at hm
   have fini : opAt L v w = 0 → ((mBin op a b) = x ∧ v = s') := fun e0 => by
    rw [if_pos e0] at hm
    injection hm with hm; injection hm with e1 e2; exact ⟨e1, e2⟩
   cases hb : v.b with
   | true =>
    obtain ⟨e1, e2⟩ := fini (opAt_bad w hb)
    subst e1 e2
    simp only [tt, seval, PB, hb, Val.row]
    refine ⟨.ag (csOf ((mBin op a b)).row), [PB L v], ⟨rfl, by rw [PB, hb]⟩, endOk ?_⟩
    simp only [tt, seval, rW, Val.row, hb]
   | false =>
   have hpb : PB L v = [.sl L.length (L.flatMap Tok.row) none, .v (.int .i64 v.a), .v (.bool false)] := by rw [PB, hb]
   have cop := l12Op_d L hL hT v w hw2 hv
   rw [hpb] at cop
   simp only [tt, seval, PB, hb, Val.row]
   refine cS (cop) (by decide) ?_ ?_ <;> simp only [tt, seval, PB, hb, Val.row]
   by_cases hop : opAt L v w = 0
   ·obtain ⟨e1, e2⟩ := fini hop
    subst e1 e2
    have e0 : decide (((opAt L v w : Nat) : Int) = 0) = true := decide_eq_true (by omega)
    simp only [tt, seval, hop, e0, PB, hb, Val.row]
    refine ⟨.ag (csOf ((mBin op a b)).row), [PB L v], ⟨rfl, by rw [PB, hb]⟩, endOk ?_⟩
    simp only [tt, seval, rW, Val.row, hb]
   ·have e0 : decide (((opAt L v w : Nat) : Int) = 0) = false := decide_eq_false (by omega)
    have e1 : (((opAt L v w : Nat) : Int) = 0) = False := eq_false (by omega)
    rw [if_neg hop] at hm
    split at hm
    ·cases hm
    rename_i z u hz
    have hav := adv_le (L := L) (opAt_lt hop)
    have o3 := ok (w + 1) _ _ _ hz
    have o3a : v.a + 1 ≤ u.a := o3.1
    have hu := o3.2.1 hav
    have hlt := (opAt_lt hop).2
    obtain ⟨k2, p2, n2, v2, q2, m2, ks2, ss2⟩ := z
    have c2 := hf (w + 1) (by omega) (by omega) _ _ _ hz hav
    rw [Expr.row_mk] at c2
    have cst := l12Step_d L hL hT v true (fun _ => opAt_lt hop)
    rw [hpb] at cst
    simp only [tt, seval, e0, e1]
    refine cS (cst) (by decide) ?_ ?_ <;> simp only [tt, seval, PB, muT, Val.row]
    apply dDrawn_j1 5
    case h1 =>
     refine dDrawn.intro [55] (.take 0 (.take 2 (.take 3 (.take 4 (.br 1 (.br 5 (.br 6 (.take 7 (.br 8 .done .nobr)) .nobr) .nobr) (.br 5 (.take 1 (.br 6 (.take 7 (.br 8 .done .nobr)) .nobr)) .nobr)))))) (by kernel_rfl) ?_
     simp only [tt, seval]
     all_goals repeat' first | refine brC ?_ ?_ | refine brC2 ?_ ?_
     all_goals
      refine cS (c2) (by decide) ?_ ?_
      ·simp (config := { maxSteps := 2000000 }) only [tt, seval, PB, Val.row, ew]
       try decide
      simp (config := { maxSteps := 2000000 }) only [tt, seval, PB, Val.row, ew]
     all_goals exact ⟨rfl, rfl, rfl⟩
    case h2 =>
     intro f' hj0
     try simp only [tt, seval, hj0]
     refine ⟨[.ren 56 10056], by decide, by decide, ?_⟩
     simp only [tt, seval]
     refine ⟨[(9000, .str (PB L u)), (5, .str [.v (.int .i64 4), .v (.int .i64 (opAt L v w)), .v (.bool false), .v (.int .i64 0), .v (.int .i64 0), .v (.string ByteArray.empty), .v (.string ByteArray.empty), .v (.string ByteArray.empty), .s 10056 2, .v (.slice none 0 0)]), (10056, .arr 32 2 ([(mBin op a b), (Expr.mk k2 p2 n2 v2 q2 m2 ks2 ss2)].flatMap Expr.row) none), (4, .str [.v (.int .i64 0), .v (.int .i64 0), .v (.bool false), .v (.int .i64 0), .v (.int .i64 0), .v (.string ByteArray.empty), .v (.string ByteArray.empty), .v (.string ByteArray.empty), .v (.slice none 0 0), .v (.slice none 0 0)])], none, by simp only [rW, Val.row]; exact SubO.cons rfl (SubO.cons rfl (SubO.cons rfl (SubO.cons rfl (SubO.nil _)))), PoSub.none _, ⟨mBin (opAt L v w) (mBin op a b) (Expr.mk k2 p2 n2 v2 q2 m2 ks2 ss2), u, n, hm, hu, .inr ⟨_, (mBin op a b), (Expr.mk k2 p2 n2 v2 q2 m2 ks2 ss2), rfl, rfl⟩, rfl⟩, ?_⟩
     show L.length - ((u.a : Int)).toNat < L.length - ((v.a : Int)).toNat
     omega
theorem l12Source_d (L : List Tok) (hL : L.length ≤ 1048576) (hT : ∀ t ∈ L, t.text.size ≤ 1048576) (s : PS) (ha : s.a ≤ L.length) : Cl Tryz.prog 173 [.c (.p 9000 0)] [PB L s] fun r os => r = .ag (csOf (sourceM L s).1.row) ∧ os = [PB L (sourceM L s).2] := by
 refine cl_of_d follows_mixed false Tryz.func173 rfl (by kernel_rfl) ?_
 simp only [Tryz.f173, tt, seval]
 refine cS (l12Text_d L hL hT s 2 (by omega) ha) (by decide) ?_ ?_ <;> simp only [tt, seval, PB]
 have ha1 := (Ok.mText (L := L) 2 s).2.1 ha
 have he : sourceM L s = (.mk (mText L 2 s).1 (asM L (mText L 2 s).2).1 [], (asM L (mText L 2 s).2).2) := rfl
 rw [he]
 generalize (mText L 2 s).1 = x at *
 generalize (mText L 2 s).2 = u at *
 refine cS (l12As_d L hL hT u ha1) (by decide) ?_ ?_ <;> simp only [tt, seval, PB]
 refine ⟨.ag (csOf (Source.mk x (asM L u).1 []).row), [PB L (asM L u).2], ⟨rfl, rfl⟩, endOk ?_⟩
 simp only [tt, seval, PB, Source.row_mk, List.flatMap_nil, List.length_nil]
def SpL (L : List Tok) (fn : FuncId) (m : PM (List Expr)) : Prop := ∀ s x s', m s = some (x, s') → s.a ≤ L.length → Cl Tryz.prog fn [.c (.p 9000 0)] [PB L s] fun r os => r = .c (.sl x.length (x.flatMap Expr.row) none) ∧ os = [PB L s']
theorem l12Where_step (L : List Tok) (hL : L.length ≤ 1048576) (hT : ∀ t ∈ L, t.text.size ≤ 1048576) {f : Nat → PM Expr} (hf1 : SpE L 34 [vi 1] (f 1)) : SpL L 174 (whereM L f) := by
 intro s x s' h ha
 unfold whereM at h
 refine cl_of_d follows_mixed false Tryz.func174 rfl (by kernel_rfl) ?_
 simp only [Tryz.f174, tt, seval]
 refine cS (l12Maybe_d L hL hT s 6 (by omega) (by omega) ha) (by decide) ?_ ?_ <;> simp only [tt, seval, PB]
 cases c6 : isKey L s 6 with
 | true =>
  rw [if_pos c6] at h
  split at h
  ·cases h
  rename_i e s1 he
  injection h with h; injection h with h1 h2; subst h1 h2
  simp only [tt, seval, tkT, tkF, muT, muF]
  obtain ⟨k1, p1, n1, v1, q1, m1, ks1, ss1⟩ := e
  have c1 := hf1 _ _ _ he (adv_le (isKey_lt c6))
  rw [Expr.row_mk] at c1
  refine cS (c1) (by decide) ?_ ?_ <;> simp only [tt, seval, PB, Val.row]
  refine ⟨.c (.sl [(Expr.mk k1 p1 n1 v1 q1 m1 ks1 ss1)].length ([(Expr.mk k1 p1 n1 v1 q1 m1 ks1 ss1)].flatMap Expr.row) none), [PB L s1], ⟨rfl, rfl⟩, endOk ?_⟩
  simp only [tt, seval, rW, Val.row]
 | false =>
  rw [if_neg (by rw [c6]; simp)] at h
  injection h with h; injection h with h1 h2; subst h1 h2
  simp only [tt, seval, tkT, tkF, muT, muF, Bool.false_eq_true]
  refine ⟨.c (.sl ([] : List Expr).length (([] : List Expr).flatMap Expr.row) none), [PB L s], ⟨rfl, rfl⟩, endOk ?_⟩
  simp only [tt, seval, PB, List.flatMap_nil, List.length_nil]
theorem key_two {L : List Tok} {s : PS} (h : isKey L s 9 = true) : isKey L s 10 = false := by
 unfold isKey isT at h ⊢
 cases ht : tkAt L s 0 with
 | none => rfl
 | some t =>
  rw [ht] at h
  simp only [Bool.and_eq_true, decide_eq_true_eq] at h
  simp only [h.1, h.2]
  decide +kernel
theorem l12Sort_step (L : List Tok) (hL : L.length ≤ 1048576) (hT : ∀ t ∈ L, t.text.size ≤ 1048576) {f : Nat → PM Expr} (ok : ∀ lv, OkM (L := L) (f lv)) (hf1 : SpE L 34 [vi 1] (f 1)) (s : PS) (x : SortKey) (s' : PS) (h : sortM L f s = some (x, s')) (ha : s.a ≤ L.length) : Cl Tryz.prog 175 [.c (.p 9000 0)] [PB L s] fun r os => r = .ag (csOf x.row) ∧ os = [PB L s'] := by
 unfold sortM at h
 split at h
 ·cases h
 rename_i e s1 he
 have ha1 := (ok 1 _ _ _ he).2.1 ha
 obtain ⟨k1, p1, n1, v1, q1, m1, ks1, ss1⟩ := e
 have c1 := hf1 _ _ _ he ha
 rw [Expr.row_mk] at c1
 refine cl_of_d follows_mixed false Tryz.func175 rfl (by kernel_rfl) ?_
 simp only [Tryz.f175, tt, seval]
 refine cS (c1) (by decide) ?_ ?_ <;> simp only [tt, seval, PB, Val.row]
 cases c9 : isKey L s1 9 with
 | true =>
  have c10 := key_two c9
  rw [if_pos c9] at h
  injection h with h; injection h with h1 h2; subst h1 h2
  refine cS (l12Maybe_d L hL hT s1 10 (by omega) (by omega) ha1) (by decide) ?_ ?_ <;> simp only [tt, seval, PB]
  simp only [tt, seval, c10, tkT, tkF, muT, muF, Bool.false_eq_true]
  refine cS (l12Maybe_d L hL hT s1 9 (by omega) (by omega) ha1) (by decide) ?_ ?_ <;> simp only [tt, seval, PB]
  simp only [tt, seval, c9, tkT, tkF, muT, muF]
  refine ⟨.ag (csOf (SortKey.mk (Expr.mk k1 p1 n1 v1 q1 m1 ks1 ss1) false).row), [PB L (adv s1)], ⟨rfl, rfl⟩, endOk ?_⟩
  simp only [tt, seval, rW, Val.row, SortKey.row_mk]
 | false =>
  rw [if_neg (by rw [c9]; simp)] at h
  injection h with h; injection h with h1 h2; subst h1 h2
  refine cS (l12Maybe_d L hL hT s1 10 (by omega) (by omega) ha1) (by decide) ?_ ?_ <;> simp only [tt, seval, PB]
  cases c10 : isKey L s1 10 with
  | true =>
   simp only [tt, seval, tkT, tkF, muT, muF]
   refine ⟨.ag (csOf (SortKey.mk (Expr.mk k1 p1 n1 v1 q1 m1 ks1 ss1) true).row), [PB L (adv s1)], ⟨rfl, rfl⟩, endOk ?_⟩
   simp only [tt, seval, rW, Val.row, SortKey.row_mk]
  | false =>
   simp only [tt, seval, tkT, tkF, muT, muF, Bool.false_eq_true]
   refine cS (l12Maybe_d L hL hT s1 9 (by omega) (by omega) ha1) (by decide) ?_ ?_ <;> simp only [tt, seval, PB]
   simp only [tt, seval, c9, tkT, tkF, muT, muF]
   refine ⟨.ag (csOf (SortKey.mk (Expr.mk k1 p1 n1 v1 q1 m1 ks1 ss1) false).row), [PB L s1], ⟨rfl, rfl⟩, endOk ?_⟩
   simp only [tt, seval, rW, Val.row, SortKey.row_mk]
theorem star_b (L : List Tok) (s : PS) : starN L s = (isK L s 2 && (decide ((nxT L s 1).kind = 5) && decide ((nxT L s 1).text = ⟨#[46]⟩) && (decide ((nxT L s 2).kind = 5) && decide ((nxT L s 2).text = ⟨#[42]⟩)))) := by
 rw [nx_T L s 1 5 _ (by decide), nx_T L s 2 5 _ (by decide)]; rfl
set_option maxHeartbeats 2000000 in
theorem l12Item_step (L : List Tok) (hL : L.length ≤ 1048576) (hT : ∀ t ∈ L, t.text.size ≤ 1048576) {f : Nat → PM Expr} (ok : ∀ lv, OkM (L := L) (f lv)) (hf1 : SpE L 34 [vi 1] (f 1)) (s : PS) (x : Item) (s' : PS) (h : itemM L f s = some (x, s')) (ha : s.a ≤ L.length) : Cl Tryz.prog 172 [.c (.p 9000 0)] [PB L s] fun r os => r = .ag (csOf x.row) ∧ os = [PB L s'] := by
 unfold itemM at h
 refine cl_of_d follows_mixed false Tryz.func172 rfl (by kernel_rfl) ?_
 simp only [Tryz.f172, tt, seval]
 refine cS (l12Next_d L hL hT s 1 (by omega) ha) (by decide) ?_ ?_ <;> simp only [tt, seval, PB, Tok.row]
 refine cS (l12Next_d L hL hT s 2 (by omega) ha) (by decide) ?_ ?_ <;> simp only [tt, seval, PB, Tok.row]
 refine cS (l12SignC_d L hL hT s 42 ha) (by decide) ?_ ?_ <;> simp only [tt, seval, PB]
 cases c42 : isSg L s 42 with
 | true =>
  rw [if_pos c42] at h
  injection h with h; injection h with h1 h2; subst h1 h2
  simp only [tt, seval]
  refine cS (l12Step_d L hL hT s true (fun _ => isSg_lt c42)) (by decide) ?_ ?_ <;> simp only [tt, seval, PB, muT]
  refine ⟨.ag (csOf (Item.mk true z0 zExpr z0).row), [PB L (adv s)], ⟨rfl, rfl⟩, endOk ?_⟩
  simp only [tt, seval, rW, Val.row, Item.row_mk]
 | false =>
 rw [if_neg (by rw [c42]; simp)] at h
 simp only [tt, seval, Bool.false_eq_true]
 refine cS (l12Kind_d L hL hT s 2 (by omega) ha) (by decide) ?_ ?_ <;> simp only [tt, seval, PB]
 refine And.intro (fun hK => ?_) (fun hK => ?_)
 ·simp only [tt, seval, hK]
  refine And.intro (fun g0 => ?_) (fun g0 => ?_)
  ·simp only [tt, seval, g0]
   refine And.intro (fun g1 => ?_) (fun g1 => ?_)
   ·simp only [tt, seval, g1]
    refine And.intro (fun g2 => ?_) (fun g2 => ?_)
    ·simp only [tt, seval, g2]
     refine And.intro (fun g3 => ?_) (fun g3 => ?_)
     ·simp only [tt, seval, g3]
      have hst : starN L s = true := by rw [star_b, hK, g0, g1, g2, g3]; rfl
      rw [if_pos hst] at h
      injection h with h; injection h with h1 h2; subst h1 h2
      have l3 := (starN_lt hst).2
      have l1 := isK_lt hK
      have ha1 := adv_le (L := L) l1
      refine cS (l12Text_d L hL hT s 2 (by omega) ha) (by decide) ?_ ?_ <;> simp only [tt, seval, PB]
      rw [mt_yes hK]
      simp only [tt, seval]
      refine cS (l12Step_d L hL hT (adv s) true (fun _ => ⟨l1.1, by show s.a + 1 < L.length; omega⟩)) (by decide) ?_ ?_ <;> simp only [tt, seval, PB, muT]
      refine cS (l12Step_d L hL hT (adv (adv s)) true (fun _ => ⟨l1.1, by show s.a + 1 + 1 < L.length; omega⟩)) (by decide) ?_ ?_ <;> simp only [tt, seval, PB, muT]
      refine ⟨.ag (csOf (Item.mk true (textAt L s) zExpr z0).row), [PB L (adv (adv (adv s)))], ⟨rfl, rfl⟩, endOk ?_⟩
      simp only [tt, seval, rW, Val.row, Item.row_mk]
     ·simp only [tt, seval, g3, Bool.false_eq_true]
      have hsf : starN L s = false := by first | (rw [star_b, g3]; simp only [Bool.false_and, Bool.and_false]) | (rw [star_b, decide_eq_false g3]; simp only [Bool.false_and, Bool.and_false])
      rw [if_neg (by rw [hsf]; simp)] at h
      split at h
      ·cases h
      rename_i e s1 he
      injection h with h; injection h with h1 h2; subst h1 h2
      have ha1 := (ok 1 _ _ _ he).2.1 ha
      obtain ⟨k1, p1, n1, v1, q1, m1, ks1, ss1⟩ := e
      have c1 := hf1 _ _ _ he ha
      rw [Expr.row_mk] at c1
      refine cS (c1) (by decide) ?_ ?_ <;> simp only [tt, seval, PB, Val.row]
      apply dDrawn_j1 2
      case h1 =>
       refine dDrawn.intro [50] (.take 1 (.br 0 (.br 2 (.take 3 (.br 4 .done .nobr)) .nobr) (.br 2 (.take 0 (.take 3 (.br 4 .done .nobr))) .nobr))) (by kernel_rfl) ?_
       simp only [tt, seval]
       all_goals repeat' first | refine brC ?_ ?_ | refine brC2 ?_ ?_
       all_goals
        refine cS (l12As_d L hL hT s1 ha1) (by decide) ?_ ?_
        ·simp only [tt, seval, PB, Val.row]
         try decide
        simp only [tt, seval, PB, Val.row]
       all_goals exact ⟨rfl, rfl, rfl⟩
      case h2 =>
       intro f' hj0
       try simp only [tt, seval, hj0]
       refine ⟨.ag (csOf (Item.mk false z0 (Expr.mk k1 p1 n1 v1 q1 m1 ks1 ss1) (asM L s1).1).row), [PB L (asM L s1).2], ⟨rfl, rfl⟩, endOk ?_⟩
       simp only [tt, seval, rW, Val.row, Item.row_mk, hj0]
    ·simp only [tt, seval, g2, Bool.false_eq_true]
     have hsf : starN L s = false := by first | (rw [star_b, g2]; simp only [Bool.false_and, Bool.and_false]) | (rw [star_b, decide_eq_false g2]; simp only [Bool.false_and, Bool.and_false])
     rw [if_neg (by rw [hsf]; simp)] at h
     split at h
     ·cases h
     rename_i e s1 he
     injection h with h; injection h with h1 h2; subst h1 h2
     have ha1 := (ok 1 _ _ _ he).2.1 ha
     obtain ⟨k1, p1, n1, v1, q1, m1, ks1, ss1⟩ := e
     have c1 := hf1 _ _ _ he ha
     rw [Expr.row_mk] at c1
     refine cS (c1) (by decide) ?_ ?_ <;> simp only [tt, seval, PB, Val.row]
     apply dDrawn_j1 2
     case h1 =>
      refine dDrawn.intro [50] (.take 1 (.br 0 (.br 2 (.take 3 (.br 4 .done .nobr)) .nobr) (.br 2 (.take 0 (.take 3 (.br 4 .done .nobr))) .nobr))) (by kernel_rfl) ?_
      simp only [tt, seval]
      all_goals repeat' first | refine brC ?_ ?_ | refine brC2 ?_ ?_
      all_goals
       refine cS (l12As_d L hL hT s1 ha1) (by decide) ?_ ?_
       ·simp only [tt, seval, PB, Val.row]
        try decide
       simp only [tt, seval, PB, Val.row]
      all_goals exact ⟨rfl, rfl, rfl⟩
     case h2 =>
      intro f' hj0
      try simp only [tt, seval, hj0]
      refine ⟨.ag (csOf (Item.mk false z0 (Expr.mk k1 p1 n1 v1 q1 m1 ks1 ss1) (asM L s1).1).row), [PB L (asM L s1).2], ⟨rfl, rfl⟩, endOk ?_⟩
      simp only [tt, seval, rW, Val.row, Item.row_mk, hj0]
   ·simp only [tt, seval, g1, Bool.false_eq_true]
    have hsf : starN L s = false := by first | (rw [star_b, g1]; simp only [Bool.false_and, Bool.and_false]) | (rw [star_b, decide_eq_false g1]; simp only [Bool.false_and, Bool.and_false])
    rw [if_neg (by rw [hsf]; simp)] at h
    split at h
    ·cases h
    rename_i e s1 he
    injection h with h; injection h with h1 h2; subst h1 h2
    have ha1 := (ok 1 _ _ _ he).2.1 ha
    obtain ⟨k1, p1, n1, v1, q1, m1, ks1, ss1⟩ := e
    have c1 := hf1 _ _ _ he ha
    rw [Expr.row_mk] at c1
    refine cS (c1) (by decide) ?_ ?_ <;> simp only [tt, seval, PB, Val.row]
    apply dDrawn_j1 2
    case h1 =>
     refine dDrawn.intro [50] (.take 1 (.br 0 (.br 2 (.take 3 (.br 4 .done .nobr)) .nobr) (.br 2 (.take 0 (.take 3 (.br 4 .done .nobr))) .nobr))) (by kernel_rfl) ?_
     simp only [tt, seval]
     all_goals repeat' first | refine brC ?_ ?_ | refine brC2 ?_ ?_
     all_goals
      refine cS (l12As_d L hL hT s1 ha1) (by decide) ?_ ?_
      ·simp only [tt, seval, PB, Val.row]
       try decide
      simp only [tt, seval, PB, Val.row]
     all_goals exact ⟨rfl, rfl, rfl⟩
    case h2 =>
     intro f' hj0
     try simp only [tt, seval, hj0]
     refine ⟨.ag (csOf (Item.mk false z0 (Expr.mk k1 p1 n1 v1 q1 m1 ks1 ss1) (asM L s1).1).row), [PB L (asM L s1).2], ⟨rfl, rfl⟩, endOk ?_⟩
     simp only [tt, seval, rW, Val.row, Item.row_mk, hj0]
  ·simp only [tt, seval, g0, Bool.false_eq_true]
   have hsf : starN L s = false := by first | (rw [star_b, g0]; simp only [Bool.false_and, Bool.and_false]) | (rw [star_b, decide_eq_false g0]; simp only [Bool.false_and, Bool.and_false])
   rw [if_neg (by rw [hsf]; simp)] at h
   split at h
   ·cases h
   rename_i e s1 he
   injection h with h; injection h with h1 h2; subst h1 h2
   have ha1 := (ok 1 _ _ _ he).2.1 ha
   obtain ⟨k1, p1, n1, v1, q1, m1, ks1, ss1⟩ := e
   have c1 := hf1 _ _ _ he ha
   rw [Expr.row_mk] at c1
   refine cS (c1) (by decide) ?_ ?_ <;> simp only [tt, seval, PB, Val.row]
   apply dDrawn_j1 2
   case h1 =>
    refine dDrawn.intro [50] (.take 1 (.br 0 (.br 2 (.take 3 (.br 4 .done .nobr)) .nobr) (.br 2 (.take 0 (.take 3 (.br 4 .done .nobr))) .nobr))) (by kernel_rfl) ?_
    simp only [tt, seval]
    all_goals repeat' first | refine brC ?_ ?_ | refine brC2 ?_ ?_
    all_goals
     refine cS (l12As_d L hL hT s1 ha1) (by decide) ?_ ?_
     ·simp only [tt, seval, PB, Val.row]
      try decide
     simp only [tt, seval, PB, Val.row]
    all_goals exact ⟨rfl, rfl, rfl⟩
   case h2 =>
    intro f' hj0
    try simp only [tt, seval, hj0]
    refine ⟨.ag (csOf (Item.mk false z0 (Expr.mk k1 p1 n1 v1 q1 m1 ks1 ss1) (asM L s1).1).row), [PB L (asM L s1).2], ⟨rfl, rfl⟩, endOk ?_⟩
    simp only [tt, seval, rW, Val.row, Item.row_mk, hj0]
 ·simp only [tt, seval, hK, Bool.false_eq_true]
  have hsf : starN L s = false := by rw [star_b, hK]; rfl
  rw [if_neg (by rw [hsf]; simp)] at h
  split at h
  ·cases h
  rename_i e s1 he
  injection h with h; injection h with h1 h2; subst h1 h2
  have ha1 := (ok 1 _ _ _ he).2.1 ha
  obtain ⟨k1, p1, n1, v1, q1, m1, ks1, ss1⟩ := e
  have c1 := hf1 _ _ _ he ha
  rw [Expr.row_mk] at c1
  refine cS (c1) (by decide) ?_ ?_ <;> simp only [tt, seval, PB, Val.row]
  apply dDrawn_j1 2
  case h1 =>
   refine dDrawn.intro [50] (.take 1 (.br 0 (.br 2 (.take 3 (.br 4 .done .nobr)) .nobr) (.br 2 (.take 0 (.take 3 (.br 4 .done .nobr))) .nobr))) (by kernel_rfl) ?_
   simp only [tt, seval]
   all_goals repeat' first | refine brC ?_ ?_ | refine brC2 ?_ ?_
   all_goals
    refine cS (l12As_d L hL hT s1 ha1) (by decide) ?_ ?_
    ·simp only [tt, seval, PB, Val.row]
     try decide
    simp only [tt, seval, PB, Val.row]
   all_goals exact ⟨rfl, rfl, rfl⟩
  case h2 =>
   intro f' hj0
   try simp only [tt, seval, hj0]
   refine ⟨.ag (csOf (Item.mk false z0 (Expr.mk k1 p1 n1 v1 q1 m1 ks1 ss1) (asM L s1).1).row), [PB L (asM L s1).2], ⟨rfl, rfl⟩, endOk ?_⟩
   simp only [tt, seval, rW, Val.row, Item.row_mk, hj0]
theorem l12End_d (L : List Tok) (hL : L.length ≤ 1048576) (hT : ∀ t ∈ L, t.text.size ≤ 1048576) (s : PS) (ha : s.a ≤ L.length) : Cl Tryz.prog 35 [.c (.p 9000 0)] [PB L s] fun r os => r = vi (endM L s) ∧ os = [PB L s] := by
 refine cl_of_d follows_mixed false Tryz.func35 rfl (by kernel_rfl) ?_
 simp only [Tryz.f35, tt, seval]
 simp only [tt, seval, PB]
 cases hb : s.b with
 | true =>
  have e : endM L s = s.a := if_neg (by rw [hb]; simp)
  rw [e]
  refine dDrawn.intro [] (pln [0, 2, 4, 6, 8, 10, 12, 14, 16, 18, 20, 22, 24, 26, 28, 30, 32]) (by kernel_rfl) ?_
  simp only [tt, seval]
  exact ⟨_, _, ⟨rfl, rfl⟩, endOk (by simp only [tt, seval])⟩
 | false =>
  refine dDrawn.intro [] (pln [0, 2, 4, 6, 8, 10, 12, 14, 16, 18, 20, 22, 24, 26, 28, 30, 32]) (by kernel_rfl) ?_
  simp only [tt, seval]
  refine fun _ => And.intro (fun he => ?_) (fun he => ?_)
  ·have e : endM L s = -1 := if_pos ⟨hb, by omega⟩
   rw [e]
   exact ⟨_, _, ⟨rfl, rfl⟩, endOk (by simp only [tt, seval])⟩
  ·have e : endM L s = s.a := if_neg (by omega)
   rw [e]
   exact ⟨_, _, ⟨rfl, rfl⟩, endOk (by simp only [tt, seval])⟩
theorem mt_small {L : List Tok} (hL : L.length ≤ 1048576) (hT : ∀ t ∈ L, t.text.size ≤ 1048576) (s : PS) (k : Int) : (mText L k s).1.size ≤ 1048576 := by
 unfold mText
 split
 ·exact text_small hL hT s
 ·exact Nat.zero_le _
set_option maxHeartbeats 16000000 in
theorem l12Query_step (L : List Tok) (hL : L.length ≤ 1048576) (hT : ∀ t ∈ L, t.text.size ≤ 1048576) {f : Nat → PM Expr} (ok : ∀ lv, OkM (L := L) (f lv)) (hf1 : SpE L 34 [vi 1] (f 1)) : SpQ L 124 (stepQ L f) := by
 intro s x s' h ha
 unfold stepQ at h
 simp only at h
 refine cl_of_d follows_mixed false Tryz.func124 rfl (by kernel_rfl) ?_
 simp only [Tryz.f124, tt, seval]
 refine cS (l12Key_d L hL hT s 1 (by omega) (by omega) ha) (by decide) ?_ ?_ <;> simp (config := { maxSteps := 4000000 }) only [tt, seval, PB]
 refine cS (l12Step_d L hL hT s (isKey L s 1) (fun h => isKey_lt h)) (by decide) ?_ ?_ <;> simp (config := { maxSteps := 4000000 }) only [tt, seval, PB]
 have o1 : Ok L s (must (isKey L s 1) s) := Ok.must fun h => isKey_lt h
 have ha1 := o1.2.1 ha
 generalize must (isKey L s 1) s = u1 at *
 refine cS (l12Maybe_d L hL hT u1 2 (by omega) (by omega) ha1) (by decide) ?_ ?_ <;> simp (config := { maxSteps := 4000000 }) only [tt, seval, PB]
 have o2 : Ok L u1 (tkIf (isKey L u1 2) u1) := Ok.tkIf fun h => isKey_lt h
 have ha2 := o2.2.1 ha1
 generalize tkIf (isKey L u1 2) u1 = u2 at *
 generalize isKey L u1 2 = dist at *
 split at h
 ·cases h
 rename_i its u3 hits
 unfold itemsM at hits
 split at hits
 ·cases hits
 rename_i it1 v1 hit1
 have c1 := l12Item_step L hL hT ok hf1 _ _ _ hit1 ha2
 obtain ⟨star1, qual1, ⟨k1, p1, n1, w1, q1, m1, ks1, ss1⟩, as1⟩ := it1
 rw [Item.row_mk, Expr.row_mk] at c1
 have hav1 := (OkM.item ok _ _ _ hit1).2.1 ha2
 apply dDrawn_j3 0 2 3
 case h1 =>
  refine dDrawn.intro [16] (.take 0 (.take 2 (.br 1 (.br 3 (.br 4 (.br 5 (.take 6 (.br 7 .done .nobr)) .nobr) .nobr) .nobr) (.br 3 (.take 1 (.br 4 (.br 5 (.take 6 (.br 7 .done .nobr)) .nobr) .nobr)) .nobr)))) (by kernel_rfl) ?_
  simp (config := { maxSteps := 4000000 }) only [tt, seval]
  all_goals repeat' first | refine brC ?_ ?_ | refine brC2 ?_ ?_
  all_goals
   refine cS (c1) (by decide) ?_ ?_
   ·simp (config := { maxSteps := 4000000 }) only [tt, seval, PB, Val.row]
    try decide
   simp (config := { maxSteps := 4000000 }) only [tt, seval, PB, Val.row]
  all_goals repeat' first | refine brA ?_ ?_ | refine brA2 ?_ ?_ | refine brA3 ?_ ?_
  all_goals
   refine ⟨by kernel_rfl, ⟨by simp only [maxLen]; omega, by omega⟩, ?_⟩
   try simp (config := { maxSteps := 4000000 }) only [tt, seval]
  all_goals exact ⟨rfl, rfl, rfl, rfl, rfl⟩
 case h2 =>
  intro f' hj0 hj1 hj2
  try simp (config := { maxSteps := 4000000 }) only [tt, seval, hj0, hj1, hj2]
  refine dLoop.gh [.ren 18 29] ⟨by decide, by decide, ?_⟩
  refine dLoop0.intro (fun f' Lo p => ∃ (m : List Item) (v : PS) (n : Nat), sepM L (itemM L f) n m v = some (its, u3) ∧ v.a ≤ L.length ∧ m.length ≤ v.a + 1 ∧ Lo = [(9000, .str (PB L v)), (3, .str [.v (.bool dist), .s 29 (m).length, .v (.slice none 0 0), .v (.slice none 0 0), .v (.slice none 0 0), .v (.int .i64 (-1))]), (29, .arr 130 (m).length ((m).flatMap Item.row) none), (2, .str [.v (.bool false), .v (.slice none 0 0), .v (.slice none 0 0), .v (.slice none 0 0), .v (.slice none 0 0), .v (.int .i64 0)])] ∧ p = none) (fun _ Lo _ => L.length - atS Lo) [(9000, .str (PB L v1)), (3, .str [.v (.bool dist), .s 29 ([(Item.mk star1 qual1 (Expr.mk k1 p1 n1 w1 q1 m1 ks1 ss1) as1)]).length, .v (.slice none 0 0), .v (.slice none 0 0), .v (.slice none 0 0), .v (.int .i64 (-1))]), (29, .arr 130 ([(Item.mk star1 qual1 (Expr.mk k1 p1 n1 w1 q1 m1 ks1 ss1) as1)]).length (([(Item.mk star1 qual1 (Expr.mk k1 p1 n1 w1 q1 m1 ks1 ss1) as1)]).flatMap Item.row) none), (2, .str [.v (.bool false), .v (.slice none 0 0), .v (.slice none 0 0), .v (.slice none 0 0), .v (.slice none 0 0), .v (.int .i64 0)])] none ⟨by simp only [rW, Item.row_mk, Val.row, lc]; exact SubO.cons rfl (SubO.cons rfl (SubO.cons rfl (SubO.cons rfl (SubO.nil _)))), PoSub.none _, ?_⟩ ?_
  ·simp (config := { maxSteps := 4000000 }) only [tt, seval, hj0, hj1, hj2]
   exact ⟨[(Item.mk star1 qual1 (Expr.mk k1 p1 n1 w1 q1 m1 ks1 ss1) as1)], v1, L.length + 1, hits, hav1, by simp, rfl⟩
  ·rintro g' Lo p ⟨m, v, n, hm, hv, hml, rfl, rfl⟩
   try simp (config := { maxSteps := 4000000 }) only [tt, seval, hj0, hj1, hj2]
   refine cS (l12SignC_d L hL hT v 44 hv) (by decide) ?_ ?_ <;> simp (config := { maxSteps := 4000000 }) only [tt, seval, PB, hj0, hj1, hj2]
   cases n with
   | zero => cases hm
   | succ n =>
   rw [sepM] at hm
   cases c44 : isSg L v 44 with
   | true =>
    rw [if_pos c44] at hm
    split at hm
    ·cases hm
    rename_i z w hz
    obtain ⟨hb, hlt⟩ := isSg_lt c44
    have hav := adv_le (L := L) (isSg_lt c44)
    have o3 := OkM.item ok _ _ _ hz
    have o3a : v.a + 1 ≤ w.a := o3.1
    have hw := o3.2.1 hav
    have c2 := l12Item_step L hL hT ok hf1 _ _ _ hz hav
    obtain ⟨star2, qual2, ⟨k2, p2, n2, w2, q2, m2, ks2, ss2⟩, as2⟩ := z
    rw [Item.row_mk, Expr.row_mk] at c2
    simp (config := { maxSteps := 4000000 }) only [tt, seval, hj0, hj1, hj2]
    refine cS (l12Step_d L hL hT v true (fun _ => isSg_lt c44)) (by decide) ?_ ?_ <;> simp (config := { maxSteps := 4000000 }) only [tt, seval, PB, muT, hj0, hj1, hj2]
    apply dDrawn_j1 3
    case h1 =>
     refine dDrawn.intro [27] (.take 0 (.take 2 (.br 1 (.br 3 (.br 4 (.br 5 (.take 6 (.br 7 .done .nobr)) .nobr) .nobr) .nobr) (.br 3 (.take 1 (.br 4 (.br 5 (.take 6 (.br 7 .done .nobr)) .nobr) .nobr)) .nobr)))) (by kernel_rfl) ?_
     simp (config := { maxSteps := 4000000 }) only [tt, seval]
     all_goals try simp (config := { maxSteps := 4000000 }) only [tt, seval, hj0, hj1, hj2]
     all_goals repeat' first | refine brC ?_ ?_ | refine brC2 ?_ ?_
     all_goals
      refine cS (c2) (by decide) ?_ ?_
      ·simp (config := { maxSteps := 4000000 }) only [tt, seval, PB, Val.row, hj0, hj1, hj2]
       try decide
      simp (config := { maxSteps := 4000000 }) only [tt, seval, PB, Val.row, hj0, hj1, hj2]
     all_goals repeat' first | refine brA ?_ ?_ | refine brA2 ?_ ?_ | refine brA3 ?_ ?_
     all_goals
      refine ⟨by kernel_rfl, ⟨by simp only [maxLen]; omega, by omega⟩, ?_⟩
      try simp (config := { maxSteps := 4000000 }) only [tt, seval]
     all_goals exact ⟨rfl, rfl, rfl⟩
    case h2 =>
     intro f' hk0
     try simp (config := { maxSteps := 4000000 }) only [tt, seval, hk0]
     refine ⟨[(9000, .str (PB L w)), (3, .str [.v (.bool dist), .s 29 ((m ++ [(Item.mk star2 qual2 (Expr.mk k2 p2 n2 w2 q2 m2 ks2 ss2) as2)])).length, .v (.slice none 0 0), .v (.slice none 0 0), .v (.slice none 0 0), .v (.int .i64 (-1))]), (29, .arr 130 ((m ++ [(Item.mk star2 qual2 (Expr.mk k2 p2 n2 w2 q2 m2 ks2 ss2) as2)])).length (((m ++ [(Item.mk star2 qual2 (Expr.mk k2 p2 n2 w2 q2 m2 ks2 ss2) as2)])).flatMap Item.row) none), (2, .str [.v (.bool false), .v (.slice none 0 0), .v (.slice none 0 0), .v (.slice none 0 0), .v (.slice none 0 0), .v (.int .i64 0)])], none, by simp only [rW, Item.row_mk, Val.row, lc, List.flatMap_append, List.length_append]; exact SubO.cons rfl (SubO.cons rfl (SubO.cons rfl (SubO.cons rfl (SubO.nil _)))), PoSub.none _, ⟨m ++ [(Item.mk star2 qual2 (Expr.mk k2 p2 n2 w2 q2 m2 ks2 ss2) as2)], w, n, hm, hw, by simp; omega, rfl, rfl⟩, ?_⟩
     show L.length - ((w.a : Int)).toNat < L.length - ((v.a : Int)).toNat
     omega
   | false =>
    rw [if_neg (by rw [c44]; simp)] at hm
    injection hm with hm; injection hm with e1 e2; subst e1 e2
    simp (config := { maxSteps := 4000000 }) only [tt, seval, Bool.false_eq_true, hj0, hj1, hj2]
    refine cS (l12Key_d L hL hT v 3 (by omega) (by omega) hv) (by decide) ?_ ?_ <;> simp (config := { maxSteps := 4000000 }) only [tt, seval, PB, hj0, hj1, hj2]
    refine cS (l12Step_d L hL hT v (isKey L v 3) (fun h => isKey_lt h)) (by decide) ?_ ?_ <;> simp (config := { maxSteps := 4000000 }) only [tt, seval, PB, hj0, hj1, hj2]
    have o4 : Ok L v (must (isKey L v 3) v) := Ok.must fun h => isKey_lt h
    have ha4 := o4.2.1 hv
    generalize must (isKey L v 3) v = u4 at *
    have c3 := l12Source_d L hL hT u4 ha4
    have ha5 := (Ok.sourceM (L := L) u4).2.1 ha4
    generalize (sourceM L u4).2 = v5 at *
    generalize (sourceM L u4).1 = sr1 at *
    obtain ⟨tb1, sa1, on1⟩ := sr1
    rw [Source.row_mk] at c3
    apply dDrawn_j3 0 2 3
    case h1 =>
     refine dDrawn.intro [38] (.take 0 (.take 2 (.br 1 (.br 3 (.br 4 (.br 5 (.take 6 (.br 7 .done .nobr)) .nobr) .nobr) .nobr) (.br 3 (.take 1 (.br 4 (.br 5 (.take 6 (.br 7 .done .nobr)) .nobr) .nobr)) .nobr)))) (by kernel_rfl) ?_
     simp (config := { maxSteps := 4000000 }) only [tt, seval]
     all_goals try simp (config := { maxSteps := 4000000 }) only [tt, seval, hj0, hj1, hj2]
     all_goals repeat' first | refine brC ?_ ?_ | refine brC2 ?_ ?_
     all_goals
      refine cS (c3) (by decide) ?_ ?_
      ·simp (config := { maxSteps := 4000000 }) only [tt, seval, PB, Val.row, hj0, hj1, hj2]
       try decide
      simp (config := { maxSteps := 4000000 }) only [tt, seval, PB, Val.row, hj0, hj1, hj2]
     all_goals repeat' first | refine brA ?_ ?_ | refine brA2 ?_ ?_ | refine brA3 ?_ ?_
     all_goals
      refine ⟨by kernel_rfl, ⟨by simp only [maxLen]; omega, by omega⟩, ?_⟩
      try simp (config := { maxSteps := 4000000 }) only [tt, seval]
     all_goals exact ⟨rfl, rfl, rfl, rfl, rfl⟩
    case h2 =>
     intro f' hi0 hi1 hi2
     try simp (config := { maxSteps := 4000000 }) only [tt, seval, hi0, hi1, hi2]
     split at h
     ·cases h
     rename_i frs s4 hfrs
     refine dLoop.gh [.ren 40 67] ⟨by decide, by decide, ?_⟩
     refine dLoop0.intro (fun f' Lo p => ∃ (l : List Source) (v : PS) (n : Nat), sourcesM L f n l v = some (frs, s4) ∧ v.a ≤ L.length ∧ l.length ≤ v.a + 1 ∧ Lo = [(9000, .str (PB L v)), (3, .str [.v (.bool dist), .s 29 m.length, .s 67 (l).length, .v (.slice none 0 0), .v (.slice none 0 0), .v (.int .i64 (-1))]), (29, .arr 130 m.length (m.flatMap Item.row) none), (67, .arr 132 (l).length ((l).flatMap Source.row) none), (2, .str [.v (.bool false), .v (.slice none 0 0), .v (.slice none 0 0), .v (.slice none 0 0), .v (.slice none 0 0), .v (.int .i64 0)])] ∧ p = none) (fun _ Lo _ => L.length - atS Lo) [(9000, .str (PB L v5)), (3, .str [.v (.bool dist), .s 29 m.length, .s 67 ([(Source.mk tb1 sa1 on1)]).length, .v (.slice none 0 0), .v (.slice none 0 0), .v (.int .i64 (-1))]), (29, .arr 130 m.length (m.flatMap Item.row) none), (67, .arr 132 ([(Source.mk tb1 sa1 on1)]).length (([(Source.mk tb1 sa1 on1)]).flatMap Source.row) none), (2, .str [.v (.bool false), .v (.slice none 0 0), .v (.slice none 0 0), .v (.slice none 0 0), .v (.slice none 0 0), .v (.int .i64 0)])] none ⟨by simp only [rW, Source.row_mk, Val.row, lc]; exact SubO.cons rfl (SubO.cons rfl (SubO.cons rfl (SubO.cons rfl (SubO.cons rfl (SubO.nil _))))), PoSub.none _, ?_⟩ ?_
     ·simp (config := { maxSteps := 4000000 }) only [tt, seval, hi0, hi1, hi2]
      exact ⟨[(Source.mk tb1 sa1 on1)], v5, L.length + 1, hfrs, ha5, by simp, rfl⟩
     ·rintro g2 Lo p ⟨l, v6, n2, hm2, hv6, hml2, rfl, rfl⟩
      try simp (config := { maxSteps := 4000000 }) only [tt, seval, hi0, hi1, hi2]
      refine cS (l12SignC_d L hL hT v6 44 hv6) (by decide) ?_ ?_ <;> simp (config := { maxSteps := 4000000 }) only [tt, seval, PB, hi0, hi1, hi2]
      cases n2 with
      | zero => cases hm2
      | succ n2 =>
      rw [sourcesM] at hm2
      cases c44 : isSg L v6 44 with
      | true =>
       have k4 : isKey L v6 4 = false := by
        cases e : isKey L v6 4 with
        | false => rfl
        | true => have := key_not_sg (c := 44) e; rw [c44] at this; cases this
       rw [if_pos c44] at hm2
       have hav := adv_le (L := L) (isSg_lt c44)
       have hlt := (isSg_lt c44).2
       have c4 := l12Source_d L hL hT (adv v6) hav
       have o6 := Ok.sourceM (L := L) (adv v6)
       have o6a : v6.a + 1 ≤ (sourceM L (adv v6)).2.a := o6.1
       have hw := o6.2.1 hav
       generalize (sourceM L (adv v6)).2 = w6 at *
       generalize (sourceM L (adv v6)).1 = sr2 at *
       obtain ⟨tb2, sa2, on2⟩ := sr2
       rw [Source.row_mk] at c4
       refine And.intro (fun _ => ?_) (fun hx => by cases hx)
       simp (config := { maxSteps := 4000000 }) only [tt, seval, hi0, hi1, hi2]
       refine cS (l12Key_d L hL hT v6 4 (by omega) (by omega) hv6) (by decide) ?_ ?_ <;> simp (config := { maxSteps := 4000000 }) only [tt, seval, PB, hi0, hi1, hi2]
       simp (config := { maxSteps := 4000000 }) only [tt, seval, k4]
       refine cS (l12Step_d L hL hT v6 true (fun _ => isSg_lt c44)) (by decide) ?_ ?_ <;> simp (config := { maxSteps := 4000000 }) only [tt, seval, PB, muT, hi0, hi1, hi2]
       refine cS (c4) (by decide) ?_ ?_ <;> simp (config := { maxSteps := 4000000 }) only [tt, seval, PB, hi0, hi1, hi2, Val.row]
       refine ⟨by kernel_rfl, ⟨by simp only [maxLen]; omega, by omega⟩, ?_⟩
       refine ⟨[(9000, .str (PB L w6)), (3, .str [.v (.bool dist), .s 29 m.length, .s 67 ((l ++ [Source.mk tb2 sa2 on2])).length, .v (.slice none 0 0), .v (.slice none 0 0), .v (.int .i64 (-1))]), (29, .arr 130 m.length (m.flatMap Item.row) none), (67, .arr 132 ((l ++ [Source.mk tb2 sa2 on2])).length (((l ++ [Source.mk tb2 sa2 on2])).flatMap Source.row) none), (2, .str [.v (.bool false), .v (.slice none 0 0), .v (.slice none 0 0), .v (.slice none 0 0), .v (.slice none 0 0), .v (.int .i64 0)])], none, by simp only [rW, Source.row_mk, Val.row, lc, List.flatMap_append, List.length_append]; exact SubO.cons rfl (SubO.cons rfl (SubO.cons rfl (SubO.cons rfl (SubO.cons rfl (SubO.nil _))))), PoSub.none _, ⟨l ++ [Source.mk tb2 sa2 on2], w6, n2, hm2, hw, by simp; omega, rfl, rfl⟩, ?_⟩
       show L.length - ((w6.a : Int)).toNat < L.length - ((v6.a : Int)).toNat
       omega
      | false =>
       rw [if_neg (by rw [c44]; simp)] at hm2
       refine And.intro (fun hx => by cases hx) (fun _ => ?_)
       simp (config := { maxSteps := 4000000 }) only [tt, seval, hi0, hi1, hi2]
       refine cS (l12Key_d L hL hT v6 4 (by omega) (by omega) hv6) (by decide) ?_ ?_ <;> simp (config := { maxSteps := 4000000 }) only [tt, seval, PB, hi0, hi1, hi2]
       cases k4 : isKey L v6 4 with
       | true =>
        rw [if_pos k4] at hm2
        simp only at hm2
        split at hm2
        ·cases hm2
        rename_i e7 s7 he7
        have hav := adv_le (L := L) (isKey_lt k4)
        have hlt := (isKey_lt k4).2
        have c4 := l12Source_d L hL hT (adv v6) hav
        have o6 := Ok.sourceM (L := L) (adv v6)
        have o6a : v6.a + 1 ≤ (sourceM L (adv v6)).2.a := o6.1
        have hw := o6.2.1 hav
        generalize (sourceM L (adv v6)).2 = w6 at *
        generalize (sourceM L (adv v6)).1 = sr2 at *
        obtain ⟨tb2, sa2, on2⟩ := sr2
        rw [Source.row_mk] at c4
        simp (config := { maxSteps := 4000000 }) only [tt, seval, hi0, hi1, hi2]
        refine cS (l12Key_d L hL hT v6 4 (by omega) (by omega) hv6) (by decide) ?_ ?_ <;> simp (config := { maxSteps := 4000000 }) only [tt, seval, PB, hi0, hi1, hi2]
        simp (config := { maxSteps := 4000000 }) only [tt, seval, k4]
        refine cS (l12Step_d L hL hT v6 true (fun _ => isKey_lt k4)) (by decide) ?_ ?_ <;> simp (config := { maxSteps := 4000000 }) only [tt, seval, PB, muT, hi0, hi1, hi2]
        refine cS (c4) (by decide) ?_ ?_ <;> simp (config := { maxSteps := 4000000 }) only [tt, seval, PB, hi0, hi1, hi2, Val.row]
        refine cS (l12Key_d L hL hT w6 5 (by omega) (by omega) hw) (by decide) ?_ ?_ <;> simp (config := { maxSteps := 4000000 }) only [tt, seval, PB, hi0, hi1, hi2]
        refine cS (l12Step_d L hL hT w6 (isKey L w6 5) (fun h => isKey_lt h)) (by decide) ?_ ?_ <;> simp (config := { maxSteps := 4000000 }) only [tt, seval, PB, hi0, hi1, hi2]
        have o7 : Ok L w6 (must (isKey L w6 5) w6) := Ok.must fun h => isKey_lt h
        have o7a := o7.1
        have hw7 := o7.2.1 hw
        generalize must (isKey L w6 5) w6 = w7 at *
        have o8 := ok 1 _ _ _ he7
        have o8a := o8.1
        have hs7 := o8.2.1 hw7
        obtain ⟨k7, p7, n7, x7, q7, m7, ks7, ss7⟩ := e7
        have c7 := hf1 _ _ _ he7 hw7
        rw [Expr.row_mk] at c7
        refine cS (c7) (by decide) ?_ ?_ <;> simp (config := { maxSteps := 4000000 }) only [tt, seval, PB, hi0, hi1, hi2, Val.row]
        refine ⟨by kernel_rfl, ⟨by simp only [maxLen]; omega, by omega⟩, ?_⟩
        refine ⟨[(9000, .str (PB L s7)), (3, .str [.v (.bool dist), .s 29 m.length, .s 67 ((l ++ [Source.mk tb2 sa2 [Expr.mk k7 p7 n7 x7 q7 m7 ks7 ss7]])).length, .v (.slice none 0 0), .v (.slice none 0 0), .v (.int .i64 (-1))]), (29, .arr 130 m.length (m.flatMap Item.row) none), (67, .arr 132 ((l ++ [Source.mk tb2 sa2 [Expr.mk k7 p7 n7 x7 q7 m7 ks7 ss7]])).length (((l ++ [Source.mk tb2 sa2 [Expr.mk k7 p7 n7 x7 q7 m7 ks7 ss7]])).flatMap Source.row) none), (2, .str [.v (.bool false), .v (.slice none 0 0), .v (.slice none 0 0), .v (.slice none 0 0), .v (.slice none 0 0), .v (.int .i64 0)])], none, by simp only [rW, Source.row_mk, Val.row, lc, List.flatMap_append, List.length_append]; exact SubO.cons rfl (SubO.cons rfl (SubO.cons rfl (SubO.cons rfl (SubO.cons rfl (SubO.nil _))))), PoSub.none _, ⟨l ++ [Source.mk tb2 sa2 [Expr.mk k7 p7 n7 x7 q7 m7 ks7 ss7]], s7, n2, hm2, hs7, by simp; omega, rfl, rfl⟩, ?_⟩
        show L.length - ((s7.a : Int)).toNat < L.length - ((v6.a : Int)).toNat
        omega
       | false =>
        rw [if_neg (by rw [k4]; simp)] at hm2
        injection hm2 with hm2; injection hm2 with e1 e2; subst e1 e2
        simp (config := { maxSteps := 4000000 }) only [tt, seval, Bool.false_eq_true, hi0, hi1, hi2]
        split at h
        ·cases h
        rename_i wh s5 hwh
        have hs5 := (OkM.wher ok _ _ _ hwh).2.1 hv6
        have cw := l12Where_step L hL hT hf1 _ _ _ hwh hv6
        refine cS (cw) (by decide) ?_ ?_ <;> simp (config := { maxSteps := 4000000 }) only [tt, seval, PB, hi0, hi1, hi2]
        refine cS (l12Maybe_d L hL hT s5 7 (by omega) (by omega) hs5) (by decide) ?_ ?_ <;> simp (config := { maxSteps := 4000000 }) only [tt, seval, PB, hi0, hi1, hi2]
        split at h
        ·cases h
        rename_i ord s6 hord
        unfold orderM at hord
        cases c7 : isKey L s5 7 with
        | false =>
         rw [if_neg (by rw [c7]; simp)] at hord
         injection hord with hord; injection hord with e1 e2; subst e1 e2
         simp (config := { maxSteps := 4000000 }) only [tt, seval, tkT, tkF, muT, muF, Bool.false_eq_true, hi0, hi1, hi2]
         refine cS (l12Maybe_d L hL hT s5 11 (by omega) (by omega) hs5) (by decide) ?_ ?_ <;> simp (config := { maxSteps := 4000000 }) only [tt, seval, PB, hi0, hi1, hi2]
         cases c11 : isKey L s5 11 with
         | true =>
          have hlim : limitM L s5 = (numV (mText L 3 (adv s5)).1, (mText L 3 (adv s5)).2) := by rw [limitM, if_pos c11]; rfl
          rw [hlim] at h
          injection h with h; injection h with h1 h2; subst h1 h2
          have hsz := mt_small hL hT (adv s5) 3
          simp (config := { maxSteps := 4000000 }) only [tt, seval, tkT, tkF, muT, muF, hi0, hi1, hi2]
          refine cS (l12Text_d L hL hT (adv s5) 3 (by omega) (adv_le (isKey_lt c11))) (by decide) ?_ ?_ <;> simp (config := { maxSteps := 4000000 }) only [tt, seval, PB, hi0, hi1, hi2]
          generalize (mText L 3 (adv s5)).1 = xn at *
          generalize (mText L 3 (adv s5)).2 = sn at *
          refine cZ (Number_d xn hsz) (by decide) ?_ ?_ <;> simp (config := { maxSteps := 4000000 }) only [tt, seval, numS, hi0, hi1, hi2]
          refine ⟨.ag (csOf (Query.mk dist m l wh ([] : List SortKey) (numV xn)).row), [PB L (sn)], ⟨rfl, rfl⟩, endOk ?_⟩
          simp (config := { maxSteps := 4000000 }) only [tt, seval, rW, Val.row, PB, hi0, hi1, hi2]
         | false =>
          have hlim : limitM L s5 = (-1, s5) := by rw [limitM, if_neg (by rw [c11]; simp)]
          rw [hlim] at h
          injection h with h; injection h with h1 h2; subst h1 h2
          simp (config := { maxSteps := 4000000 }) only [tt, seval, tkT, tkF, muT, muF, Bool.false_eq_true, hi0, hi1, hi2]
          refine ⟨.ag (csOf (Query.mk dist m l wh ([] : List SortKey) (-1)).row), [PB L (s5)], ⟨rfl, rfl⟩, endOk ?_⟩
          simp (config := { maxSteps := 4000000 }) only [tt, seval, rW, Val.row, PB, hi0, hi1, hi2]
        | true =>
         rw [if_pos c7] at hord
         simp only at hord
         split at hord
         ·cases hord
         rename_i z1 y1 hz1
         simp (config := { maxSteps := 4000000 }) only [tt, seval, tkT, tkF, muT, muF, hi0, hi1, hi2]
         have hav5 := adv_le (L := L) (isKey_lt c7)
         have hlt5 := (isKey_lt c7).2
         refine cS (l12Key_d L hL hT (adv s5) 8 (by omega) (by omega) hav5) (by decide) ?_ ?_ <;> simp (config := { maxSteps := 4000000 }) only [tt, seval, PB, hi0, hi1, hi2]
         refine cS (l12Step_d L hL hT (adv s5) (isKey L (adv s5) 8) (fun h => isKey_lt h)) (by decide) ?_ ?_ <;> simp (config := { maxSteps := 4000000 }) only [tt, seval, PB, hi0, hi1, hi2]
         have o9 : Ok L (adv s5) (must (isKey L (adv s5) 8) (adv s5)) := Ok.must fun h => isKey_lt h
         have hu9 := o9.2.1 hav5
         generalize must (isKey L (adv s5) 8) (adv s5) = u9 at *
         have c9 := l12Sort_step L hL hT ok hf1 _ _ _ hz1 hu9
         have hy1 := (OkM.sort ok _ _ _ hz1).2.1 hu9
         obtain ⟨⟨k9, p9, n9, x9, q9, m9, ks9, ss9⟩, de9⟩ := z1
         rw [SortKey.row_mk, Expr.row_mk] at c9
         apply dDrawn_j3 0 2 3
         case h1 =>
          refine dDrawn.intro [81] (.take 0 (.take 2 (.br 1 (.br 3 (.br 4 (.br 5 (.take 6 (.br 7 .done .nobr)) .nobr) .nobr) .nobr) (.br 3 (.take 1 (.br 4 (.br 5 (.take 6 (.br 7 .done .nobr)) .nobr) .nobr)) .nobr)))) (by kernel_rfl) ?_
          simp (config := { maxSteps := 4000000 }) only [tt, seval]
          all_goals try simp (config := { maxSteps := 4000000 }) only [tt, seval, hi0, hi1, hi2]
          all_goals repeat' first | refine brC ?_ ?_ | refine brC2 ?_ ?_
          all_goals
           refine cS (c9) (by decide) ?_ ?_
           ·simp (config := { maxSteps := 4000000 }) only [tt, seval, PB, Val.row, hi0, hi1, hi2]
            try decide
           simp (config := { maxSteps := 4000000 }) only [tt, seval, PB, Val.row, hi0, hi1, hi2]
          all_goals repeat' first | refine brA ?_ ?_ | refine brA2 ?_ ?_ | refine brA3 ?_ ?_
          all_goals
           refine ⟨by kernel_rfl, ⟨by simp only [maxLen]; omega, by omega⟩, ?_⟩
           try simp (config := { maxSteps := 4000000 }) only [tt, seval]
          all_goals exact ⟨rfl, rfl, rfl, rfl, rfl⟩
         case h2 =>
          intro f' hl0 hl1 hl2
          try simp (config := { maxSteps := 4000000 }) only [tt, seval, hl0, hl1, hl2]
          refine dLoop.gh [.ren 83 94] ⟨by decide, by decide, ?_⟩
          refine dLoop0.intro (fun f' Lo p => ∃ (l9 : List SortKey) (v9 : PS) (n9' : Nat), sepM L (sortM L f) n9' l9 v9 = some (ord, s6) ∧ v9.a ≤ L.length ∧ l9.length ≤ v9.a + 1 ∧ Lo = [(9000, .str (PB L v9)), (3, .str [.v (.bool dist), .s 29 m.length, .s 67 l.length, .sl wh.length (wh.flatMap Expr.row) none, .s 94 (l9).length, .v (.int .i64 (-1))]), (29, .arr 130 m.length (m.flatMap Item.row) none), (67, .arr 132 l.length (l.flatMap Source.row) none), (94, .arr 134 (l9).length ((l9).flatMap SortKey.row) none), (2, .str [.v (.bool false), .v (.slice none 0 0), .v (.slice none 0 0), .v (.slice none 0 0), .v (.slice none 0 0), .v (.int .i64 0)])] ∧ p = none) (fun _ Lo _ => L.length - atS Lo) [(9000, .str (PB L y1)), (3, .str [.v (.bool dist), .s 29 m.length, .s 67 l.length, .sl wh.length (wh.flatMap Expr.row) none, .s 94 ([(SortKey.mk (Expr.mk k9 p9 n9 x9 q9 m9 ks9 ss9) de9)]).length, .v (.int .i64 (-1))]), (29, .arr 130 m.length (m.flatMap Item.row) none), (67, .arr 132 l.length (l.flatMap Source.row) none), (94, .arr 134 ([(SortKey.mk (Expr.mk k9 p9 n9 x9 q9 m9 ks9 ss9) de9)]).length (([(SortKey.mk (Expr.mk k9 p9 n9 x9 q9 m9 ks9 ss9) de9)]).flatMap SortKey.row) none), (2, .str [.v (.bool false), .v (.slice none 0 0), .v (.slice none 0 0), .v (.slice none 0 0), .v (.slice none 0 0), .v (.int .i64 0)])] none ⟨by simp only [rW, SortKey.row_mk, Val.row, lc]; exact SubO.cons rfl (SubO.cons rfl (SubO.cons rfl (SubO.cons rfl (SubO.cons rfl (SubO.cons rfl (SubO.nil _)))))), PoSub.none _, ?_⟩ ?_
          ·simp (config := { maxSteps := 4000000 }) only [tt, seval, hl0, hl1, hl2]
           exact ⟨[(SortKey.mk (Expr.mk k9 p9 n9 x9 q9 m9 ks9 ss9) de9)], y1, L.length + 1, hord, hy1, by simp, rfl⟩
          ·rintro g3 Lo p ⟨l9, v9, n9', hm9, hv9, hml9, rfl, rfl⟩
           try simp (config := { maxSteps := 4000000 }) only [tt, seval, hl0, hl1, hl2]
           refine cS (l12SignC_d L hL hT v9 44 hv9) (by decide) ?_ ?_ <;> simp (config := { maxSteps := 4000000 }) only [tt, seval, PB, hl0, hl1, hl2]
           cases n9' with
           | zero => cases hm9
           | succ n9' =>
           rw [sepM] at hm9
           cases c44 : isSg L v9 44 with
           | true =>
            rw [if_pos c44] at hm9
            split at hm9
            ·cases hm9
            rename_i za wa hza
            obtain ⟨hb9, hlt9⟩ := isSg_lt c44
            have hav9 := adv_le (L := L) (isSg_lt c44)
            have oa := OkM.sort ok _ _ _ hza
            have oaa : v9.a + 1 ≤ wa.a := oa.1
            have hwa := oa.2.1 hav9
            have ca := l12Sort_step L hL hT ok hf1 _ _ _ hza hav9
            obtain ⟨⟨ka, pa, na, xa, qa, ma, ksa, ssa⟩, dea⟩ := za
            rw [SortKey.row_mk, Expr.row_mk] at ca
            simp (config := { maxSteps := 4000000 }) only [tt, seval, hl0, hl1, hl2]
            refine cS (l12Step_d L hL hT v9 true (fun _ => isSg_lt c44)) (by decide) ?_ ?_ <;> simp (config := { maxSteps := 4000000 }) only [tt, seval, PB, muT, hl0, hl1, hl2]
            apply dDrawn_j1 3
            case h1 =>
             refine dDrawn.intro [92] (.take 0 (.take 2 (.br 1 (.br 3 (.br 4 (.br 5 (.take 6 (.br 7 .done .nobr)) .nobr) .nobr) .nobr) (.br 3 (.take 1 (.br 4 (.br 5 (.take 6 (.br 7 .done .nobr)) .nobr) .nobr)) .nobr)))) (by kernel_rfl) ?_
             simp (config := { maxSteps := 4000000 }) only [tt, seval]
             all_goals try simp (config := { maxSteps := 4000000 }) only [tt, seval, hl0, hl1, hl2]
             all_goals repeat' first | refine brC ?_ ?_ | refine brC2 ?_ ?_
             all_goals
              refine cS (ca) (by decide) ?_ ?_
              ·simp (config := { maxSteps := 4000000 }) only [tt, seval, PB, Val.row, hl0, hl1, hl2]
               try decide
              simp (config := { maxSteps := 4000000 }) only [tt, seval, PB, Val.row, hl0, hl1, hl2]
             all_goals repeat' first | refine brA ?_ ?_ | refine brA2 ?_ ?_ | refine brA3 ?_ ?_
             all_goals
              refine ⟨by kernel_rfl, ⟨by simp only [maxLen]; omega, by omega⟩, ?_⟩
              try simp (config := { maxSteps := 4000000 }) only [tt, seval]
             all_goals exact ⟨rfl, rfl, rfl⟩
            case h2 =>
             intro f' hn0
             try simp (config := { maxSteps := 4000000 }) only [tt, seval, hn0]
             refine ⟨[(9000, .str (PB L wa)), (3, .str [.v (.bool dist), .s 29 m.length, .s 67 l.length, .sl wh.length (wh.flatMap Expr.row) none, .s 94 ((l9 ++ [(SortKey.mk (Expr.mk ka pa na xa qa ma ksa ssa) dea)])).length, .v (.int .i64 (-1))]), (29, .arr 130 m.length (m.flatMap Item.row) none), (67, .arr 132 l.length (l.flatMap Source.row) none), (94, .arr 134 ((l9 ++ [(SortKey.mk (Expr.mk ka pa na xa qa ma ksa ssa) dea)])).length (((l9 ++ [(SortKey.mk (Expr.mk ka pa na xa qa ma ksa ssa) dea)])).flatMap SortKey.row) none), (2, .str [.v (.bool false), .v (.slice none 0 0), .v (.slice none 0 0), .v (.slice none 0 0), .v (.slice none 0 0), .v (.int .i64 0)])], none, by simp only [rW, SortKey.row_mk, Val.row, lc, List.flatMap_append, List.length_append]; exact SubO.cons rfl (SubO.cons rfl (SubO.cons rfl (SubO.cons rfl (SubO.cons rfl (SubO.cons rfl (SubO.nil _)))))), PoSub.none _, ⟨l9 ++ [(SortKey.mk (Expr.mk ka pa na xa qa ma ksa ssa) dea)], wa, n9', hm9, hwa, by simp; omega, rfl, rfl⟩, ?_⟩
             show L.length - ((wa.a : Int)).toNat < L.length - ((v9.a : Int)).toNat
             omega
           | false =>
            rw [if_neg (by rw [c44]; simp)] at hm9
            injection hm9 with hm9; injection hm9 with e1 e2; subst e1 e2
            simp (config := { maxSteps := 4000000 }) only [tt, seval, Bool.false_eq_true, hl0, hl1, hl2]
            refine cS (l12Maybe_d L hL hT v9 11 (by omega) (by omega) hv9) (by decide) ?_ ?_ <;> simp (config := { maxSteps := 4000000 }) only [tt, seval, PB, hl0, hl1, hl2]
            cases c11 : isKey L v9 11 with
            | true =>
             have hlim : limitM L v9 = (numV (mText L 3 (adv v9)).1, (mText L 3 (adv v9)).2) := by rw [limitM, if_pos c11]; rfl
             rw [hlim] at h
             injection h with h; injection h with h1 h2; subst h1 h2
             have hsz := mt_small hL hT (adv v9) 3
             simp (config := { maxSteps := 4000000 }) only [tt, seval, tkT, tkF, muT, muF, hl0, hl1, hl2]
             refine cS (l12Text_d L hL hT (adv v9) 3 (by omega) (adv_le (isKey_lt c11))) (by decide) ?_ ?_ <;> simp (config := { maxSteps := 4000000 }) only [tt, seval, PB, hl0, hl1, hl2]
             generalize (mText L 3 (adv v9)).1 = xn at *
             generalize (mText L 3 (adv v9)).2 = sn at *
             refine cZ (Number_d xn hsz) (by decide) ?_ ?_ <;> simp (config := { maxSteps := 4000000 }) only [tt, seval, numS, hl0, hl1, hl2]
             refine ⟨.ag (csOf (Query.mk dist m l wh l9 (numV xn)).row), [PB L (sn)], ⟨rfl, rfl⟩, endOk ?_⟩
             simp (config := { maxSteps := 4000000 }) only [tt, seval, rW, Val.row, PB, hl0, hl1, hl2]
            | false =>
             have hlim : limitM L v9 = (-1, v9) := by rw [limitM, if_neg (by rw [c11]; simp)]
             rw [hlim] at h
             injection h with h; injection h with h1 h2; subst h1 h2
             simp (config := { maxSteps := 4000000 }) only [tt, seval, tkT, tkF, muT, muF, Bool.false_eq_true, hl0, hl1, hl2]
             refine ⟨.ag (csOf (Query.mk dist m l wh l9 (-1)).row), [PB L (v9)], ⟨rfl, rfl⟩, endOk ?_⟩
             simp (config := { maxSteps := 4000000 }) only [tt, seval, rW, Val.row, PB, hl0, hl1, hl2]
theorem specP (L : List Tok) (hL : L.length ≤ 1048576) (hT : ∀ t ∈ L, t.text.size ≤ 1048576) : ∀ k, (∀ lv : Nat, 1 ≤ lv → lv ≤ 8 → SpE L 34 [vi lv] ((pP L k).1 lv)) ∧ SpE L 74 [] ((pP L k).1 9) ∧ SpQ L 124 (pP L k).2
 | 0 => ⟨fun _ _ _ _ _ _ h => (by cases h), fun _ _ _ h => (by cases h), fun _ _ _ h => (by cases h)⟩
 | k + 1 => by
  obtain ⟨h1, h2, h3⟩ := specP L hL hT k
  obtain ⟨ok, okq⟩ := pP_ok (L := L) k
  refine ⟨fun lv a b => ?_, ?_, ?_⟩
  ·show SpE L _ _ (stepE L (pP L k).1 (pP L k).2 lv)
   by_cases e3 : lv = 3
   ·subst e3; exact l12Expr3 L hL hT ok okq h1 h2 h3
   by_cases e4 : lv = 4
   ·subst e4; exact l12Expr4 L hL hT ok okq h1 h2 h3
   by_cases e8 : lv = 8
   ·subst e8; exact l12Expr8 L hL hT ok okq h1 h2 h3
   ·exact l12ExprB L hL hT ok okq h1 h2 h3 lv (by simp only [List.mem_cons, List.not_mem_nil, or_false]; omega)
  ·have e : (pP L (k + 1)).1 9 = primM L (pP L k).1 (pP L k).2 := rfl
   rw [e]
   exact l12Prim_step L hL hT (ok 1) okq (h1 1 (by omega) (by omega)) h3
  ·exact l12Query_step L hL hT ok (h1 1 (by omega) (by omega))
theorem l12Expr_d (L : List Tok) (hL : L.length ≤ 1048576) (hT : ∀ t ∈ L, t.text.size ≤ 1048576) (lv : Nat) (h1 : 1 ≤ lv) (h2 : lv ≤ 8) : SpE L 34 [vi lv] (pExpr L lv) := (specP L hL hT (pD L)).1 lv h1 h2
theorem TakeExpr_d (L : List Tok) (hL : L.length ≤ 1048576) (hT : ∀ t ∈ L, t.text.size ≤ 1048576) : Cl Tryz.prog 10 [.c (.sl L.length (L.flatMap Tok.row) none)] [] fun r _ => r = .tu [(csOf (takeE L).1.row, false), ([.v (.int .i64 (takeE L).2)], true)] := by
 obtain ⟨x, s1, hx⟩ := pExpr_df (L := L) 1 (by omega) (by omega) s0
 have ha := (pExpr_ok (L := L) 1 _ _ _ hx).2.1 (Nat.zero_le _)
 have c1 := l12Expr_d L hL hT 1 (by omega) (by omega) _ _ _ hx (Nat.zero_le _)
 have ht : takeE L = takeM L zExpr (some (x, s1)) := by unfold takeE; rw [hx]
 rw [ht]
 obtain ⟨k1, p1, n1, w1, q1, m1, ks1, ss1⟩ := x
 rw [Expr.row_mk] at c1
 refine cl_of_d follows_mixed false Tryz.func10 rfl (by kernel_rfl) ?_
 simp only [Tryz.f10, tt, seval]
 refine cS (c1) (by decide) ?_ ?_ <;> simp only [tt, seval, PB, Val.row, s0]
 refine cS (l12End_d L hL hT s1 ha) (by decide) ?_ ?_ <;> simp only [tt, seval, PB, Val.row]
 refine And.intro (fun hb => ?_) (fun hb => ?_)
 ·have e : takeM L zExpr (some (Expr.mk k1 p1 n1 w1 q1 m1 ks1 ss1, s1)) = (zExpr, endM L s1) := if_pos hb
  rw [e]
  refine ⟨_, [], rfl, endOk ?_⟩
  simp only [tt, seval, rW, Val.row, List.flatMap_nil, List.length_nil]
 ·have e : takeM L zExpr (some (Expr.mk k1 p1 n1 w1 q1 m1 ks1 ss1, s1)) = (Expr.mk k1 p1 n1 w1 q1 m1 ks1 ss1, -1) := if_neg (by omega)
  rw [e]
  refine ⟨_, [], rfl, endOk ?_⟩
  simp only [tt, seval, rW, Val.row]
end Go.Proofs.YtabhiapifcanoaaGreatDoor
