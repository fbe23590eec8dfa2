/-
  The reference's parser, first half.
  Conditions: none.
-/
import Derived.Test.YtoegnikpokgbfaaGreatDoorETJ1
set_option linter.unusedVariables false
set_option linter.unusedSimpArgs false
set_option linter.unusedSectionVars false
set_option maxRecDepth 8000
namespace Go.Proofs.YtoegnikpokgbfaaGreatDoor
open Go Go.Dv
open Go.Vc (D shrI xorI andI)
def PB (L : List Tok) (s : PS) : List C := [.sl L.length (L.flatMap Tok.row) none, .v (.int .i64 s.a), .v (.bool s.b)]
def nxT (L : List Tok) (s : PS) (k : Nat) : Tok := (tkAt L s k).getD ⟨0, ⟨#[]⟩, 0⟩
theorem nx_T (L : List Tok) (s : PS) (k : Nat) (kind : Int) (x : ByteArray) (h : kind ≠ 0) : (decide ((nxT L s k).kind = kind) && decide ((nxT L s k).text = x)) = isT L s k kind x := by
 unfold nxT isT
 cases tkAt L s k with
 | none => simp [Ne.symm h]
 | some t => rfl
theorem nx_K (L : List Tok) (s : PS) (kind : Int) (h : kind ≠ 0) : (decide ((nxT L s 0).kind = kind) && okTok (nxT L s 0)) = isK L s kind := by
 unfold nxT isK
 cases tkAt L s 0 with
 | none => simp [Ne.symm h]
 | some t => rfl
theorem nx_text (L : List Tok) (s : PS) : (nxT L s 0).text = textAt L s := by
 unfold nxT textAt
 cases tkAt L s 0 with
 | none => rfl
 | some t => rfl
theorem nx_small {L : List Tok} (hL : L.length ≤ 1048576) (hT : ∀ t ∈ L, t.text.size ≤ 1048576) (s : PS) (k : Nat) : (nxT L s k).text.size ≤ 1048576 := by
 unfold nxT
 cases h : tkAt L s k with
 | none => exact Nat.zero_le _
 | some t =>
  unfold tkAt at h
  split at h
  ·cases h
  ·exact hT t (List.mem_of_getElem? h)
theorem l12Next_d (L : List Tok) (hL : L.length ≤ 1048576) (hT : ∀ t ∈ L, t.text.size ≤ 1048576) (s : PS) (k : Nat) (hk : k ≤ 100) (ha : s.a ≤ L.length) : Cl Tryz.prog 227 [.c (.p 9000 0), vi k] [PB L s] fun r os => r = .ag (csOf (nxT L s k).row) ∧ os = [PB L s] := by
 obtain ⟨a, b⟩ := s
 have ha : a ≤ L.length := ha
 cases b with
 | true =>
  have e : nxT L ⟨a, true⟩ k = ⟨0, ⟨#[]⟩, 0⟩ := rfl
  rw [e]
  refine cl_of_d follows_mixed false Tryz.func227 rfl (by kernel_rfl) ?_
  simp only [Tryz.f227, tt, seval]
  refine dDrawn.intro [] (pln [0, 2, 4, 6, 8, 10, 12, 14, 16, 18, 20, 22, 24, 26, 28, 30, 32, 34]) (by kernel_rfl) ?_
  simp only [tt, seval]
  simp only [tt, seval, PB]
  refine ⟨_, [PB L ⟨a, true⟩], ⟨rfl, rfl⟩, endOk ?_⟩
  simp only [tt, seval, PB, Tok.row]
  rfl
 | false =>
  refine cl_of_d follows_mixed false Tryz.func227 rfl (by kernel_rfl) ?_
  simp only [Tryz.f227, tt, seval]
  refine dDrawn.intro [] (pln [0, 2, 4, 6, 8, 10, 12, 14, 16, 18, 20, 22, 24, 26, 28, 30, 32, 34]) (by kernel_rfl) ?_
  simp only [tt, seval]
  simp only [tt, seval, PB]
  rw [wrap_id (n := (a : Int) + k) (by omega) (by omega)]
  refine fun _ => And.intro (fun hge => ?_) (fun hlt => ?_)
  ·have e : nxT L ⟨a, false⟩ k = ⟨0, ⟨#[]⟩, 0⟩ := by
    show (L[a + k]?).getD _ = _
    rw [List.getElem?_eq_none_iff.2 (by omega)]; rfl
   rw [e]
   refine ⟨_, [PB L ⟨a, false⟩], ⟨rfl, rfl⟩, endOk ?_⟩
   simp only [tt, seval, PB, Tok.row]
   rfl
  ·have hlt : a + k < L.length := by omega
   have e : nxT L ⟨a, false⟩ k = L[a + k] := by
    show (L[a + k]?).getD _ = _
    rw [List.getElem?_eq_getElem hlt]; rfl
   rw [e]
   refine dDrawn.intro [] (pln [0, 2, 4, 6, 8, 10, 12, 14, 16, 18, 20, 22, 25]) (by kernel_rfl) ?_
   simp only [tt, seval]
   rw [wrap_id (n := (a : Int) + k) (by omega) (by omega)]
   have e2 : ((a : Int) + (k : Int)).toNat = a + k := by omega
   simp only [e2]
   refine ⟨by omega, by omega, _, drop_row Tok.row_len (List.getElem?_eq_getElem (by omega)), Tok.ne _ _, ?_⟩
   simp only [tt, seval, Tok.row]
   refine ⟨_, [PB L ⟨a, false⟩], ⟨rfl, rfl⟩, endOk ?_⟩
   simp only [tt, seval, PB]
theorem l12Key_d (L : List Tok) (hL : L.length ≤ 1048576) (hT : ∀ t ∈ L, t.text.size ≤ 1048576) (s : PS) (k : Nat) (h1 : 1 ≤ k) (h2 : k ≤ 28) (ha : s.a ≤ L.length) : Cl Tryz.prog 225 [.c (.p 9000 0), vi k] [PB L s] fun r os => r = vb (isKey L s k) ∧ os = [PB L s] := by
 rw [show isKey L s k = _ from (nx_T L s 0 1 (kw k) (by decide)).symm]
 refine cl_of_d follows_mixed false Tryz.func225 rfl (by kernel_rfl) ?_
 simp only [Tryz.f225, tt, seval]
 refine cS (l12Next_d L hL hT s 0 (by omega) ha) (by decide) ?_ ?_ <;> simp only [tt, seval, PB, Tok.row]
 refine dDrawn.intro [] (pln [0, 2, 4, 6, 8, 10, 12, 15, 16, 18, 20]) (by kernel_rfl) ?_
 simp only [tt, seval]
 generalize nxT L s 0 = t at *
 by_cases hk : t.kind = 1
 ·simp only [tt, seval, decide_eq_true hk]
  refine cZ (KeyText_d k h1 h2) (by decide) ?_ ?_ <;> simp only [tt, seval]
  refine ⟨_, [PB L s], ⟨rfl, rfl⟩, endOk ?_⟩
  simp only [tt, seval, PB]
 ·simp only [tt, seval, decide_eq_false hk]
  refine ⟨_, [PB L s], ⟨rfl, rfl⟩, endOk ?_⟩
  simp only [tt, seval, PB]
theorem l12Sign_d (L : List Tok) (hL : L.length ≤ 1048576) (hT : ∀ t ∈ L, t.text.size ≤ 1048576) (s : PS) (x : ByteArray) (ha : s.a ≤ L.length) : Cl Tryz.prog 193 [.c (.p 9000 0), vs x] [PB L s] fun r os => r = vb (isT L s 0 5 x) ∧ os = [PB L s] := by
 rw [show isT L s 0 5 x = _ from (nx_T L s 0 5 x (by decide)).symm]
 refine cl_of_d follows_mixed false Tryz.func193 rfl (by kernel_rfl) ?_
 simp only [Tryz.f193, tt, seval]
 refine cS (l12Next_d L hL hT s 0 (by omega) ha) (by decide) ?_ ?_ <;> simp only [tt, seval, PB, Tok.row]
 generalize nxT L s 0 = t at *
 by_cases hk : t.kind = 5
 ·simp only [tt, seval, decide_eq_true hk]
  refine ⟨_, [PB L s], ⟨rfl, rfl⟩, endOk ?_⟩
  simp only [tt, seval, PB]
 ·simp only [tt, seval, decide_eq_false hk]
  refine ⟨_, [PB L s], ⟨rfl, rfl⟩, endOk ?_⟩
  simp only [tt, seval, PB]
theorem l12Kind_d (L : List Tok) (hL : L.length ≤ 1048576) (hT : ∀ t ∈ L, t.text.size ≤ 1048576) (s : PS) (k : Nat) (h1 : 1 ≤ k) (ha : s.a ≤ L.length) : Cl Tryz.prog 228 [.c (.p 9000 0), vi k] [PB L s] fun r os => r = vb (isK L s k) ∧ os = [PB L s] := by
 rw [show isK L s k = _ from (nx_K L s k (by omega)).symm]
 refine cl_of_d follows_mixed false Tryz.func228 rfl (by kernel_rfl) ?_
 simp only [Tryz.f228, tt, seval]
 refine cS (l12Next_d L hL hT s 0 (by omega) ha) (by decide) ?_ ?_ <;> simp only [tt, seval, PB, Tok.row]
 have hs := nx_small hL hT s 0
 generalize nxT L s 0 = t at *
 by_cases hk : t.kind = k
 ·simp only [tt, seval, decide_eq_true hk]
  refine cZ (TokenOk_d t hs) (by decide) ?_ ?_ <;> simp only [tt, seval, Tok.row]
  refine ⟨_, [PB L s], ⟨rfl, rfl⟩, endOk ?_⟩
  simp only [tt, seval, PB]
 ·simp only [tt, seval, decide_eq_false hk]
  refine ⟨_, [PB L s], ⟨rfl, rfl⟩, endOk ?_⟩
  simp only [tt, seval, PB]
theorem l12Step_d (L : List Tok) (hL : L.length ≤ 1048576) (hT : ∀ t ∈ L, t.text.size ≤ 1048576) (s : PS) (c : Bool) (hc : c = true → s.b = false ∧ s.a < L.length) : Cl Tryz.prog 194 [.c (.p 9000 0), vb c] [PB L s] fun r os => r = .tu [] ∧ os = [PB L (must c s)] := by
 obtain ⟨a, b⟩ := s
 cases c with
 | true =>
  obtain ⟨rfl, ha⟩ := hc rfl
  have ha : a < L.length := ha
  refine cl_of_d follows_mixed false Tryz.func194 rfl (by kernel_rfl) ?_
  simp only [Tryz.f194, tt, seval]
  simp only [tt, seval, PB]
  rw [wrap_id (n := (a : Int) + 1) (by omega) (by omega)]
  refine ⟨_, [PB L ⟨a + 1, false⟩], ⟨rfl, rfl⟩, endOk ?_⟩
  simp only [tt, seval, PB]
  rfl
 | false =>
  refine cl_of_d follows_mixed false Tryz.func194 rfl (by kernel_rfl) ?_
  simp only [Tryz.f194, tt, seval]
  simp only [tt, seval, PB]
  refine ⟨_, [PB L ⟨a, true⟩], ⟨rfl, rfl⟩, endOk ?_⟩
  simp only [tt, seval, PB]
theorem l12Maybe_d (L : List Tok) (hL : L.length ≤ 1048576) (hT : ∀ t ∈ L, t.text.size ≤ 1048576) (s : PS) (k : Nat) (h1 : 1 ≤ k) (h2 : k ≤ 28) (ha : s.a ≤ L.length) : Cl Tryz.prog 191 [.c (.p 9000 0), vi k] [PB L s] fun r os => r = vb (isKey L s k) ∧ os = [PB L (tkIf (isKey L s k) s)] := by
 refine cl_of_d follows_mixed false Tryz.func191 rfl (by kernel_rfl) ?_
 simp only [Tryz.f191, tt, seval]
 refine cS (l12Key_d L hL hT s k h1 h2 ha) (by decide) ?_ ?_ <;> simp only [tt, seval, PB]
 cases hk : isKey L s k with
 | true =>
  simp only [tt, seval]
  refine cS (l12Step_d L hL hT s true (fun _ => isKey_lt hk)) (by decide) ?_ ?_ <;> simp only [tt, seval, PB]
  refine ⟨_, [PB L (adv s)], ⟨rfl, rfl⟩, endOk ?_⟩
  simp only [tt, seval, PB, must]
 | false =>
  simp only [tt, seval]
  refine ⟨_, [PB L s], ⟨rfl, rfl⟩, endOk ?_⟩
  simp only [tt, seval, PB]
theorem l12Text_d (L : List Tok) (hL : L.length ≤ 1048576) (hT : ∀ t ∈ L, t.text.size ≤ 1048576) (s : PS) (k : Nat) (h1 : 1 ≤ k) (ha : s.a ≤ L.length) : Cl Tryz.prog 230 [.c (.p 9000 0), vi k] [PB L s] fun r os => r = vs (mText L k s).1 ∧ os = [PB L (mText L k s).2] := by
 refine cl_of_d follows_mixed false Tryz.func230 rfl (by kernel_rfl) ?_
 simp only [Tryz.f230, tt, seval]
 refine cS (l12Next_d L hL hT s 0 (by omega) ha) (by decide) ?_ ?_ <;> simp only [tt, seval, PB, Tok.row]
 refine cS (l12Kind_d L hL hT s k h1 ha) (by decide) ?_ ?_ <;> simp only [tt, seval, PB]
 refine cS (l12Step_d L hL hT s (isK L s k) (fun h => isK_lt h)) (by decide) ?_ ?_ <;> simp only [tt, seval, PB]
 cases hk : isK L s k with
 | true =>
  obtain ⟨hb, _⟩ := isK_lt hk
  simp only [tt, seval, must, adv, hb]
  refine ⟨vs (nxT L s 0).text, [PB L (adv s)], ⟨?_, ?_⟩, endOk ?_⟩
  ·rw [mText, if_pos hk, nx_text]
  ·rw [mText, if_pos hk]; rfl
  ·simp only [tt, seval, PB, adv, hb]
 | false =>
  simp only [tt, seval, must, fl]
  refine ⟨vs ⟨#[]⟩, [PB L (fl s)], ⟨?_, ?_⟩, endOk ?_⟩
  ·rw [mText, if_neg (by rw [hk]; simp)]
  ·rw [mText, if_neg (by rw [hk]; simp)]; rfl
  ·simp only [tt, seval, PB, fl]
theorem tkT (s : PS) : tkIf true s = adv s := rfl
theorem tkF (s : PS) : tkIf false s = s := rfl
theorem muT (s : PS) : must true s = adv s := rfl
theorem muF (s : PS) : must false s = fl s := rfl
def SpE (L : List Tok) (fn : FuncId) (args : List S) (m : PM Expr) : Prop := ∀ s e s', m s = some (e, s') → s.a ≤ L.length → Cl Tryz.prog fn (.c (.p 9000 0) :: args) [PB L s] fun r os => r = .ag (csOf e.row) ∧ os = [PB L s']
def SpQ (L : List Tok) (fn : FuncId) (m : PM Query) : Prop := ∀ s e s', m s = some (e, s') → s.a ≤ L.length → Cl Tryz.prog fn [.c (.p 9000 0)] [PB L s] fun r os => r = .ag (csOf e.row) ∧ os = [PB L s']
theorem text_small {L : List Tok} (hL : L.length ≤ 1048576) (hT : ∀ t ∈ L, t.text.size ≤ 1048576) (s : PS) : (textAt L s).size ≤ 1048576 := by
 rw [← nx_text]; exact nx_small hL hT s 0
theorem adv_le {L : List Tok} {s : PS} (h : s.b = false ∧ s.a < L.length) : (adv s).a ≤ L.length := h.2
theorem mt_yes {L : List Tok} {s : PS} {k : Int} (h : isK L s k = true) : mText L k s = (textAt L s, adv s) := by rw [mText, if_pos h]
theorem key_not_sg {L : List Tok} {s : PS} {k : Nat} {c : UInt8} (h : isKey L s k = true) : isSg L s c = false := by
 unfold isKey isT at h
 unfold isSg isT
 cases ht : tkAt L s 0 with
 | none => rfl
 | some t =>
  rw [ht] at h
  simp only [Bool.and_eq_true, decide_eq_true_eq] at h
  simp [h.1]
theorem bae : ByteArray.empty = ⟨#[]⟩ := rfl
theorem rW : type_of% (And.intro @bae (And.intro @PB.eq_1 (And.intro @mLit.eq_1 (And.intro @mCol.eq_1 (And.intro @mKids.eq_1 (And.intro @mUn.eq_1 (And.intro @mBin.eq_1 (And.intro @zExpr.eq_1 (And.intro @zVal.eq_1 (And.intro @z0.eq_1 (And.intro @Expr.row_mk (And.intro @Query.row_mk (And.intro @List.flatMap_nil.{0,0} (And.intro @List.flatMap_cons.{0,0} (And.intro @List.append_nil.{0} (And.intro @List.length_nil.{0} @List.length_cons.{0})))))))))))))))) := And.intro @bae (And.intro @PB.eq_1 (And.intro @mLit.eq_1 (And.intro @mCol.eq_1 (And.intro @mKids.eq_1 (And.intro @mUn.eq_1 (And.intro @mBin.eq_1 (And.intro @zExpr.eq_1 (And.intro @zVal.eq_1 (And.intro @z0.eq_1 (And.intro @Expr.row_mk (And.intro @Query.row_mk (And.intro @List.flatMap_nil.{0,0} (And.intro @List.flatMap_cons.{0,0} (And.intro @List.append_nil.{0} (And.intro @List.length_nil.{0} @List.length_cons.{0})))))))))))))))
theorem TextValue_d (s : ByteArray) : Cl Tryz.prog 218 [vs s] [] fun r _ => r = .ag (csOf (Val.mk 2 0 s).row) := by
 refine cl_of_d follows_mixed false Tryz.func218 rfl (by kernel_rfl) ?_
 simp only [Tryz.f218, tt, seval]
 refine ⟨.ag (csOf (Val.mk 2 0 s).row), [], rfl, end0 rfl⟩
theorem BoolValue_t : Cl Tryz.prog 219 [vb true] [] fun r _ => r = .ag (csOf (Val.mk 3 1 z0).row) := by
 refine cl_of_d follows_mixed false Tryz.func219 rfl (by kernel_rfl) ?_
 simp only [Tryz.f219, tt, seval]
 refine ⟨.ag (csOf (Val.mk 3 1 z0).row), [], rfl, endOk ?_⟩
 simp only [tt, seval, Val.row, z0, bae]
theorem BoolValue_f : Cl Tryz.prog 219 [vb false] [] fun r _ => r = .ag (csOf (Val.mk 3 0 z0).row) := by
 refine cl_of_d follows_mixed false Tryz.func219 rfl (by kernel_rfl) ?_
 simp only [Tryz.f219, tt, seval]
 refine ⟨.ag (csOf (Val.mk 3 0 z0).row), [], rfl, endOk ?_⟩
 simp only [tt, seval, Val.row, z0, bae]
theorem l12SignC_d (L : List Tok) (hL : L.length ≤ 1048576) (hT : ∀ t ∈ L, t.text.size ≤ 1048576) (s : PS) (c : UInt8) (ha : s.a ≤ L.length) : Cl Tryz.prog 193 [.c (.p 9000 0), vs ⟨#[c]⟩] [PB L s] fun r os => r = vb (isSg L s c) ∧ os = [PB L s] := l12Sign_d L hL hT s ⟨#[c]⟩ ha
theorem l12As_d (L : List Tok) (hL : L.length ≤ 1048576) (hT : ∀ t ∈ L, t.text.size ≤ 1048576) (s : PS) (ha : s.a ≤ L.length) : Cl Tryz.prog 261 [.c (.p 9000 0)] [PB L s] fun r os => r = vs (asM L s).1 ∧ os = [PB L (asM L s).2] := by
 refine cl_of_d follows_mixed false Tryz.func261 rfl (by kernel_rfl) ?_
 simp only [Tryz.f261, tt, seval]
 refine cS (l12Maybe_d L hL hT s 12 (by omega) (by omega) ha) (by decide) ?_ ?_ <;> simp only [tt, seval, PB]
 cases c : isKey L s 12 with
 | true =>
  have hm : asM L s = mText L 2 (adv s) := by rw [asM, if_pos c]
  rw [hm]
  simp only [tt, seval, tkT]
  refine cS (l12Text_d L hL hT (adv s) 2 (by omega) (adv_le (isKey_lt c))) (by decide) ?_ ?_ <;> simp only [tt, seval, PB]
  refine ⟨_, [PB L (mText L 2 (adv s)).2], ⟨rfl, rfl⟩, endOk ?_⟩
  simp only [tt, seval, PB]
 | false =>
  have hm : asM L s = (z0, s) := by rw [asM, if_neg (by rw [c]; simp)]
  rw [hm]
  simp only [tt, seval, tkF]
  refine ⟨vs z0, [PB L s], ⟨rfl, rfl⟩, endOk ?_⟩
  simp only [tt, seval, PB, z0]
set_option maxHeartbeats 1000000 in
theorem l12Prim_step (L : List Tok) (hL : L.length ≤ 1048576) (hT : ∀ t ∈ L, t.text.size ≤ 1048576) {f : Nat → PM Expr} {q : PM Query} (ok1 : OkM (L := L) (f 1)) (okq : OkM (L := L) q) (hf : SpE L 129 [vi 1] (f 1)) (hq : SpQ L 231 q) : SpE L 195 [] (primM L f q) := by
 intro s e s' h ha
 have hts := text_small hL hT s
 unfold primM at h
 simp only at h
 refine cl_of_d follows_mixed false Tryz.func195 rfl (by kernel_rfl) ?_
 simp only [Tryz.f195, tt, seval]
 refine cS (l12Kind_d L hL hT s 3 (by omega) ha) (by decide) ?_ ?_ <;> simp only [tt, seval, PB]
 cases c3 : isK L s 3 with
 | true =>
  rw [if_pos c3] at h
  injection h with h; injection h with h1 h2; subst h1 h2
  simp only [tt, seval]
  refine cS (l12Text_d L hL hT s 3 (by omega) ha) (by decide) ?_ ?_ <;> simp only [tt, seval, PB]
  rw [mt_yes c3]
  refine cZ (Number_d (textAt L s) hts) (by decide) ?_ ?_ <;> simp only [tt, seval, numS]
  refine ⟨.ag (csOf (mLit ⟨1, numV (textAt L s), z0⟩).row), [PB L (adv s)], ⟨rfl, rfl⟩, endOk ?_⟩
  simp only [tt, seval, bae, PB, mLit, z0, Expr.row_mk]
 | false =>
 rw [if_neg (by rw [c3]; simp)] at h
 simp only [tt, seval]
 refine cS (l12Kind_d L hL hT s 4 (by omega) ha) (by decide) ?_ ?_ <;> simp only [tt, seval, PB]
 cases c4 : isK L s 4 with
 | true =>
  rw [if_pos c4] at h
  injection h with h; injection h with h1 h2; subst h1 h2
  simp only [tt, seval]
  refine cS (l12Text_d L hL hT s 4 (by omega) ha) (by decide) ?_ ?_ <;> simp only [tt, seval, PB]
  rw [mt_yes c4]
  refine cZ (TextValue_d (textAt L s)) (by decide) ?_ ?_ <;> simp only [tt, seval, Val.row]
  refine ⟨.ag (csOf (mLit ⟨2, 0, textAt L s⟩).row), [PB L (adv s)], ⟨rfl, rfl⟩, endOk ?_⟩
  simp only [tt, seval, bae, PB, mLit, z0, Expr.row_mk]
 | false =>
 rw [if_neg (by rw [c4]; simp)] at h
 simp only [tt, seval]
 refine cS (l12Maybe_d L hL hT s 20 (by omega) (by omega) ha) (by decide) ?_ ?_ <;> simp only [tt, seval, PB]
 cases c20 : isKey L s 20 with
 | true =>
  rw [if_pos c20] at h
  injection h with h; injection h with h1 h2; subst h1 h2
  simp only [tt, seval, tkT]
  refine ⟨.ag (csOf (mLit zVal).row), [PB L (adv s)], ⟨rfl, rfl⟩, endOk ?_⟩
  simp only [tt, seval, bae, PB, mLit, zVal, z0, Expr.row_mk]
 | false =>
 rw [if_neg (by rw [c20]; simp)] at h
 simp only [tt, seval, tkF]
 refine cS (l12Maybe_d L hL hT s 21 (by omega) (by omega) ha) (by decide) ?_ ?_ <;> simp only [tt, seval, PB]
 cases c21 : isKey L s 21 with
 | true =>
  rw [if_pos c21] at h
  injection h with h; injection h with h1 h2; subst h1 h2
  simp only [tt, seval, tkT]
  refine cZ (BoolValue_t) (by decide) ?_ ?_ <;> simp only [tt, seval, Val.row]
  refine ⟨.ag (csOf (mLit ⟨3, 1, z0⟩).row), [PB L (adv s)], ⟨rfl, rfl⟩, endOk ?_⟩
  simp only [tt, seval, bae, PB, mLit, z0, Expr.row_mk]
 | false =>
 rw [if_neg (by rw [c21]; simp)] at h
 simp only [tt, seval, tkF]
 refine cS (l12Maybe_d L hL hT s 22 (by omega) (by omega) ha) (by decide) ?_ ?_ <;> simp only [tt, seval, PB]
 cases c22 : isKey L s 22 with
 | true =>
  rw [if_pos c22] at h
  injection h with h; injection h with h1 h2; subst h1 h2
  simp only [tt, seval, tkT]
  refine cZ (BoolValue_f) (by decide) ?_ ?_ <;> simp only [tt, seval, Val.row]
  refine ⟨.ag (csOf (mLit ⟨3, 0, z0⟩).row), [PB L (adv s)], ⟨rfl, rfl⟩, endOk ?_⟩
  simp only [tt, seval, bae, PB, mLit, z0, Expr.row_mk]
 | false =>
 rw [if_neg (by rw [c22]; simp)] at h
 simp only [tt, seval, tkF]
 refine cS (l12Kind_d L hL hT s 2 (by omega) ha) (by decide) ?_ ?_ <;> simp only [tt, seval, PB]
 cases c2 : isK L s 2 with
 | true =>
  rw [if_pos c2] at h
  simp only [tt, seval]
  refine cS (l12Text_d L hL hT s 2 (by omega) ha) (by decide) ?_ ?_ <;> simp only [tt, seval, PB]
  rw [mt_yes c2]
  simp only [seval]
  have ha1 := adv_le (L := L) (isK_lt c2)
  refine cS (l12SignC_d L hL hT (adv s) 46 ha1) (by decide) ?_ ?_ <;> simp only [tt, seval, PB]
  cases cd : isSg L (adv s) 46 with
  | true =>
   rw [if_pos cd] at h
   injection h with h; injection h with h1 h2; subst h1 h2
   simp only [tt, seval]
   refine cS (l12Step_d L hL hT (adv s) true (fun _ => isSg_lt cd)) (by decide) ?_ ?_ <;> simp only [tt, seval, PB, muT]
   refine cS (l12Text_d L hL hT (adv (adv s)) 2 (by omega) (adv_le (isSg_lt cd))) (by decide) ?_ ?_ <;> simp only [tt, seval, PB]
   refine ⟨.ag (csOf (mCol (textAt L s) (mText L 2 (adv (adv s))).1).row), [PB L ((mText L 2 (adv (adv s))).2)], ⟨rfl, rfl⟩, endOk ?_⟩
   simp only [tt, seval, bae, PB, mCol, zVal, Expr.row_mk]
  | false =>
   rw [if_neg (by rw [cd]; simp)] at h
   injection h with h; injection h with h1 h2; subst h1 h2
   simp only [tt, seval]
   refine ⟨.ag (csOf (mCol z0 (textAt L s)).row), [PB L (adv s)], ⟨rfl, rfl⟩, endOk ?_⟩
   simp only [tt, seval, bae, PB, mCol, zVal, z0, Expr.row_mk]
 | false =>
 simp only [tt, seval]
 refine cS (l12Maybe_d L hL hT s 19 (by omega) (by omega) ha) (by decide) ?_ ?_ <;> simp only [tt, seval, PB]
 cases c19 : isKey L s 19 with
 | true =>
  rw [if_neg (by rw [c2]; simp), if_neg (by rw [key_not_sg c19]; simp), if_pos c19] at h
  simp only [tt, seval, tkT]
  have ha1 := adv_le (L := L) (isKey_lt c19)
  have o1 : Ok L (adv s) (must (isSg L (adv s) 40) (adv s)) := Ok.must fun h => isSg_lt h
  refine cS (l12SignC_d L hL hT (adv s) 40 ha1) (by decide) ?_ ?_ <;> simp only [tt, seval, PB]
  refine cS (l12Step_d L hL hT (adv s) (isSg L (adv s) 40) (fun h => isSg_lt h)) (by decide) ?_ ?_ <;> simp only [tt, seval, PB]
  split at h
  ·cases h
  ·rename_i x t hx
   injection h with h; injection h with h1 h2; subst h1 h2
   have o2 := okq _ _ _ hx
   obtain ⟨d, its, frs, whs, ods, lim⟩ := x
   have c := hq _ _ _ hx (o1.2.1 ha1)
   rw [Query.row_mk] at c
   refine cS (c) (by decide) ?_ ?_ <;> simp only [tt, seval, PB]
   refine cS (l12SignC_d L hL hT t 41 (o2.2.1 (o1.2.1 ha1))) (by decide) ?_ ?_ <;> simp only [tt, seval, PB]
   refine cS (l12Step_d L hL hT t (isSg L t 41) (fun h => isSg_lt h)) (by decide) ?_ ?_ <;> simp only [tt, seval, PB]
   refine ⟨.ag (csOf (mKids 9 false [] [.mk d its frs whs ods lim]).row), [PB L (must (isSg L t 41) t)], ⟨rfl, rfl⟩, endOk ?_⟩
   simp only [tt, seval, bae, PB, mKids, zVal, z0, Expr.row_mk, Query.row_mk]
 | false =>
 simp only [tt, seval, tkF]
 rw [if_neg (by rw [c2]; simp)] at h
 refine cS (l12SignC_d L hL hT s 40 ha) (by decide) ?_ ?_ <;> simp only [tt, seval, PB]
 refine cS (l12Step_d L hL hT s (isSg L s 40) (fun h => isSg_lt h)) (by decide) ?_ ?_ <;> simp only [tt, seval, PB]
 cases cl : isSg L s 40 with
 | true =>
  obtain ⟨hb, hlt⟩ := isSg_lt cl
  rw [if_pos cl] at h
  have ha1 := adv_le (L := L) (isSg_lt cl)
  have hb1 : (adv s).b = false := hb
  split at h
  ·cases h
  ·rename_i x t hx
   injection h with h; injection h with h1 h2; subst h1 h2
   have o2 := ok1 _ _ _ hx
   obtain ⟨k0, o0, n0, v0, q0, m0, ks0, ss0⟩ := x
   have c := hf _ _ _ hx ha1
   rw [Expr.row_mk] at c
   simp only [tt, seval, muT, hb1]
   have e0 : PB L (adv s) = [.sl L.length (L.flatMap Tok.row) none, .v (.int .i64 (adv s).a), .v (.bool false)] := by rw [PB, hb1]
   rw [e0] at c
   refine cS (c) (by decide) ?_ ?_ <;> simp only [tt, seval, PB]
   refine cS (l12SignC_d L hL hT t 41 (o2.2.1 ha1)) (by decide) ?_ ?_ <;> simp only [tt, seval, PB]
   refine cS (l12Step_d L hL hT t (isSg L t 41) (fun h => isSg_lt h)) (by decide) ?_ ?_ <;> simp only [tt, seval, PB]
   refine ⟨.ag (csOf (Expr.mk k0 o0 n0 v0 q0 m0 ks0 ss0).row), [PB L (must (isSg L t 41) t)], ⟨rfl, rfl⟩, endOk ?_⟩
   simp only [tt, seval, bae, PB, Expr.row_mk]
 | false =>
  rw [if_neg (by rw [cl]; simp), if_neg (by rw [c19]; simp)] at h
  injection h with h; injection h with h1 h2; subst h1 h2
  simp only [tt, seval, muF, fl]
  refine ⟨.ag (csOf (zExpr).row), [PB L (fl s)], ⟨rfl, rfl⟩, endOk ?_⟩
  simp only [tt, seval, bae, PB, zExpr, zVal, z0, Expr.row_mk, fl]
def atS (Lo : Ob) : Nat := match Go.Dv.look Lo 9000 with | some (.str [_, .v (.int _ a), _]) => a.toNat | _ => 0
theorem ex_snoc (l : List Expr) (k0 o0 : Int) (n0 : Bool) (v0 : Val) (q0 m0 : ByteArray) (ks0 : List Expr) (ss0 : List Query) : l.flatMap Expr.row ++ [int k0, int o0, bool n0, int v0.kind, int v0.num, str v0.text, str q0, str m0, .sl ks0.length (ks0.flatMap Expr.row), .sl ss0.length (ss0.flatMap Query.row)] = (l ++ [Expr.mk k0 o0 n0 v0 q0 m0 ks0 ss0]).flatMap Expr.row := by
 rw [List.flatMap_append, List.flatMap_cons, List.flatMap_nil, List.append_nil, Expr.row_mk]
theorem ex_snoc1 (X : List D) (l : List Expr) (k0 o0 : Int) (n0 : Bool) (v0 : Val) (q0 m0 : ByteArray) (ks0 : List Expr) (ss0 : List Query) : X ++ l.flatMap Expr.row ++ [int k0, int o0, bool n0, int v0.kind, int v0.num, str v0.text, str q0, str m0, .sl ks0.length (ks0.flatMap Expr.row), .sl ss0.length (ss0.flatMap Query.row)] = X ++ (l ++ [Expr.mk k0 o0 n0 v0 q0 m0 ks0 ss0]).flatMap Expr.row := by
 rw [List.append_assoc, ex_snoc]
theorem ex_two (k0 o0 : Int) (n0 : Bool) (v0 : Val) (q0 m0 : ByteArray) (ks0 : List Expr) (ss0 : List Query) (k1 o1 : Int) (n1 : Bool) (v1 : Val) (q1 m1 : ByteArray) (ks1 : List Expr) (ss1 : List Query) : ([int k0, int o0, bool n0, int v0.kind, int v0.num, str v0.text, str q0, str m0, .sl ks0.length (ks0.flatMap Expr.row), .sl ss0.length (ss0.flatMap Query.row), int k1, int o1, bool n1, int v1.kind, int v1.num, str v1.text, str q1, str m1, .sl ks1.length (ks1.flatMap Expr.row), .sl ss1.length (ss1.flatMap Query.row)] : List D) = ([Expr.mk k0 o0 n0 v0 q0 m0 ks0 ss0, Expr.mk k1 o1 n1 v1 q1 m1 ks1 ss1]).flatMap Expr.row := by
 rw [List.flatMap_cons, List.flatMap_cons, List.flatMap_nil, List.append_nil, Expr.row_mk, Expr.row_mk]; rfl
set_option maxHeartbeats 1000000 in
theorem l12Within_step (L : List Tok) (hL : L.length ≤ 1048576) (hT : ∀ t ∈ L, t.text.size ≤ 1048576) {f : Nat → PM Expr} {q : PM Query} (ok1 : OkM (L := L) (f 1)) (okq : OkM (L := L) q) (hf : SpE L 129 [vi 1] (f 1)) (hq : SpQ L 231 q) (e : Expr) (not : Bool) : SpE L 226 [.ag (csOf e.row), vb not] (inM L f q e not) := by
 intro s x s' h ha
 unfold inM at h
 simp only at h
 have o1 : Ok L s (must (isSg L s 40) s) := Ok.must fun h => isSg_lt h
 have ha1 := o1.2.1 ha
 obtain ⟨k1, p1, n1, v1, q1, m1, ks1, ss1⟩ := e
 rw [Expr.row_mk]
 refine cl_of_d follows_mixed false Tryz.func226 rfl (by kernel_rfl) ?_
 simp only [Tryz.f226, tt, seval]
 refine cS (l12SignC_d L hL hT s 40 ha) (by decide) ?_ ?_ <;> simp only [tt, seval, PB]
 refine cS (l12Step_d L hL hT s (isSg L s 40) (fun h => isSg_lt h)) (by decide) ?_ ?_ <;> simp only [tt, seval, PB]
 generalize must (isSg L s 40) s = u at *
 refine cS (l12Key_d L hL hT u 1 (by omega) (by omega) ha1) (by decide) ?_ ?_ <;> simp only [tt, seval, PB]
 cases c1 : isKey L u 1 with
 | true =>
  rw [if_pos c1] at h
  split at h
  ·cases h
  ·rename_i y t hy
   injection h with h; injection h with h1 h2; subst h1 h2
   have o2 := okq _ _ _ hy
   obtain ⟨d, its, frs, whs, ods, lim⟩ := y
   have c := hq _ _ _ hy ha1
   rw [Query.row_mk] at c
   simp only [tt, seval]
   refine cS (c) (by decide) ?_ ?_ <;> simp only [tt, seval, PB]
   refine cS (l12SignC_d L hL hT t 41 (o2.2.1 ha1)) (by decide) ?_ ?_ <;> simp only [tt, seval, PB]
   refine cS (l12Step_d L hL hT t (isSg L t 41) (fun h => isSg_lt h)) (by decide) ?_ ?_ <;> simp only [tt, seval, PB]
   refine ⟨.ag (csOf (mKids 8 not [Expr.mk k1 p1 n1 v1 q1 m1 ks1 ss1] [.mk d its frs whs ods lim]).row), [PB L (must (isSg L t 41) t)], ⟨rfl, rfl⟩, endOk ?_⟩
   simp only [tt, seval, bae, PB, mKids, zVal, z0, Expr.row_mk, Query.row_mk]
 | false =>
  rw [if_neg (by rw [c1]; simp)] at h
  unfold orsM at h
  split at h
  ·cases h
  rename_i l t hl
  split at hl
  ·cases hl
  rename_i y u1 hy
  injection h with h; injection h with h1 h2; subst h1 h2
  simp only [tt, seval]
  have o2 := ok1 _ _ _ hy
  have ha2 := o2.2.1 ha1
  obtain ⟨k0, o0, n0, v0, q0, m0, ks0, ss0⟩ := y
  have c := hf _ _ _ hy ha1
  rw [Expr.row_mk] at c
  apply dDrawn_j4 8 0 2 6
  case h1 =>
   refine dDrawn.intro [29] (.take 1 (.br 0 (.br 2 (.br 3 (.take 4 .done) .nobr) .nobr) (.br 2 (.take 0 (.br 3 (.take 4 .done) .nobr)) .nobr))) (by kernel_rfl) ?_
   simp only [tt, seval]
   all_goals repeat' first | refine brC ?_ ?_ | refine brC2 ?_ ?_
   all_goals
    refine cS (c) (by decide) ?_ ?_
    ·simp only [tt, seval, PB]
     decide
    simp only [tt, seval, PB]
   all_goals exact ⟨rfl, rfl, rfl, rfl, rfl, rfl⟩
  case h2 =>
   intro f' hj0 hj1 hj2 hj3
   simp only [tt, seval]
   rw [ex_two k1 p1 n1 v1 q1 m1 ks1 ss1 k0 o0 n0 v0 q0 m0 ks0 ss0]
   refine dLoop.gh [.ren 30 39] ⟨by decide, by decide, ?_⟩
   refine dLoop0.intro (fun f' Lo p => ∃ (m : List Expr) (v : PS) (n : Nat), f' 8 = .c (.s 39 ((Expr.mk k1 p1 n1 v1 q1 m1 ks1 ss1) :: m).length) ∧ sepM L (f 1) n m v = some (l, t) ∧ v.a ≤ L.length ∧ m.length ≤ v.a + 1 ∧ Lo = [(9000, .str (PB L v)), (39, .arr 29 ((Expr.mk k1 p1 n1 v1 q1 m1 ks1 ss1) :: m).length (((Expr.mk k1 p1 n1 v1 q1 m1 ks1 ss1) :: m).flatMap Expr.row) none), (6, .str [.v (.int .i64 0), .v (.int .i64 0), .v (.bool false), .v (.int .i64 0), .v (.int .i64 0), .v (.string ByteArray.empty), .v (.string ByteArray.empty), .v (.string ByteArray.empty), .v (.slice none 0 0), .v (.slice none 0 0)])] ∧ p = none) (fun _ Lo _ => L.length - atS Lo) [(9000, .str (PB L u1)), (39, .arr 29 ([(Expr.mk k1 p1 n1 v1 q1 m1 ks1 ss1), (Expr.mk k0 o0 n0 v0 q0 m0 ks0 ss0)]).length (([(Expr.mk k1 p1 n1 v1 q1 m1 ks1 ss1), (Expr.mk k0 o0 n0 v0 q0 m0 ks0 ss0)]).flatMap Expr.row) none), (6, .str [.v (.int .i64 0), .v (.int .i64 0), .v (.bool false), .v (.int .i64 0), .v (.int .i64 0), .v (.string ByteArray.empty), .v (.string ByteArray.empty), .v (.string ByteArray.empty), .v (.slice none 0 0), .v (.slice none 0 0)])] none ⟨SubO.cons rfl (SubO.cons rfl (SubO.cons rfl (SubO.nil _))), PoSub.none _, ?_⟩ ?_
   ·simp only [tt, seval, hj0]
    exact ⟨[(Expr.mk k0 o0 n0 v0 q0 m0 ks0 ss0)], u1, L.length + 1, rfl, hl, ha2, by simp, rfl⟩
   ·rintro g' Lo p ⟨m, v, n, h8, hm, hv, hml, rfl, rfl⟩
    simp only [tt, seval] at h8
    simp only [tt, seval, hj1]
    refine cS (l12SignC_d L hL hT v 44 hv) (by decide) ?_ ?_ <;> simp only [tt, seval, PB, hj1]
    cases n with
    | zero => cases hm
    | succ n =>
    rw [sepM] at hm
    cases c44 : isSg L v 44 with
    | true =>
     rw [if_pos c44] at hm
     split at hm
     ·cases hm
     rename_i z w hz
     obtain ⟨hb, hlt⟩ := isSg_lt c44
     have hav := adv_le (L := L) (isSg_lt c44)
     have o3 := ok1 _ _ _ hz
     have o3a : v.a + 1 ≤ w.a := o3.1
     have hw := o3.2.1 hav
     obtain ⟨k2, o2', n2, v2, q2, m2, ks2, ss2⟩ := z
     have c2 := hf _ _ _ hz hav
     rw [Expr.row_mk] at c2
     simp only [tt, seval]
     refine cS (l12Step_d L hL hT v true (fun _ => isSg_lt c44)) (by decide) ?_ ?_ <;> simp only [tt, seval, PB, muT, h8, hj1]
     refine cS (c2) (by decide) ?_ ?_ <;> simp only [tt, seval, PB]
     refine ⟨by kernel_rfl, ⟨by simp only [maxLen]; omega, by omega⟩, ?_⟩
     rw [ex_snoc1, show m.length + 1 + 1 = (m ++ [Expr.mk k2 o2' n2 v2 q2 m2 ks2 ss2]).length + 1 by simp]
     exact ⟨_, none, SubO.cons rfl (SubO.cons rfl (SubO.cons rfl (SubO.nil _))), PoSub.none _, ⟨m ++ [Expr.mk k2 o2' n2 v2 q2 m2 ks2 ss2], w, n, rfl, hm, hw, by simp; omega, rfl, rfl⟩, by show L.length - ((w.a : Int)).toNat < L.length - ((v.a : Int)).toNat; omega⟩
    | false =>
     rw [if_neg (by rw [c44]; simp)] at hm
     injection hm with hm; injection hm with e1 e2; subst e1 e2
     simp only [tt, seval]
     refine cS (l12SignC_d L hL hT v 41 hv) (by decide) ?_ ?_ <;> simp only [tt, seval, PB]
     refine cS (l12Step_d L hL hT v (isSg L v 41) (fun h => isSg_lt h)) (by decide) ?_ ?_ <;> simp only [tt, seval, PB, h8, hj2, hj3]
     refine ⟨.ag (csOf (mKids 7 not ((Expr.mk k1 p1 n1 v1 q1 m1 ks1 ss1) :: m) []).row), [PB L (must (isSg L v 41) v)], ⟨rfl, rfl⟩, endOk ?_⟩
     simp only [tt, seval, bae, PB, mKids, zVal, z0, Expr.row_mk]
theorem opsL_eq : ∀ w ∈ [1, 2, 4, 5, 6, 7], opsL w = (List.range' 1 14).filter (fun k : Nat => decide (bl (k : Int) = (w : Int))) := by decide +kernel
theorem lvE_bin (op : Int) (n : Bool) (v : Val) (q m : ByteArray) (ks : List Expr) (ss : List Query) : lvE (Expr.mk 4 op n v q m ks ss) = bl op := by simp [lvE, Expr.kind, Expr.op, lv]
theorem opTk_kind (op : Nat) (h : op ≤ 14) : (opTk (op : Int)).kind = if op = 1 ∨ op = 2 then 1 else 5 := by
 unfold opTk
 simp only
 by_cases h1 : op = 1 ∨ op = 2
 ·rw [if_pos h1, if_pos (by omega)]
 ·rw [if_neg h1, if_neg (by omega)]
theorem nx_op (L : List Tok) (s : PS) (op : Nat) (h : op ≤ 14) : (decide ((nxT L s 0).kind = (opTk (op : Int)).kind) && decide ((nxT L s 0).text = (opTk (op : Int)).text)) = opHit L s op := by
 rw [opTk_kind op h, opHit, nx_T L s 0 _ _ (by split <;> decide)]
 rfl
theorem wr1 {n : Nat} (h : n ≤ 1048576) : IntKind.i64.wrap ((n : Int) + 1) = ((n + 1 : Nat) : Int) := wrap_id (n := (n : Int) + 1) (by omega) (by omega)
theorem opF_no {L : List Tok} {s : PS} {w op : Nat} (h : op ≤ 14) (hb : ¬ bl (op : Int) = (w : Int)) : opIn L s ((List.range' op (15 - op)).filter (fun k : Nat => decide (bl (k : Int) = (w : Int)))) = opIn L s ((List.range' (op + 1) (15 - (op + 1))).filter (fun k : Nat => decide (bl (k : Int) = (w : Int)))) := by
 rw [show 15 - op = 15 - (op + 1) + 1 by omega, List.range'_succ, List.filter_cons, if_neg (by simpa using hb)]
theorem opF_yes {L : List Tok} {s : PS} {w op : Nat} (h : op ≤ 14) (hb : bl (op : Int) = (w : Int)) : opIn L s ((List.range' op (15 - op)).filter (fun k : Nat => decide (bl (k : Int) = (w : Int)))) = if opHit L s op = true then op else opIn L s ((List.range' (op + 1) (15 - (op + 1))).filter (fun k : Nat => decide (bl (k : Int) = (w : Int)))) := by
 rw [show 15 - op = 15 - (op + 1) + 1 by omega, List.range'_succ, List.filter_cons, if_pos (by simpa using hb), opIn]
set_option maxHeartbeats 1000000 in
theorem l12Op_d (L : List Tok) (hL : L.length ≤ 1048576) (hT : ∀ t ∈ L, t.text.size ≤ 1048576) (s : PS) (w : Nat) (hw : w ∈ [1, 2, 4, 5, 6, 7]) (ha : s.a ≤ L.length) : Cl Tryz.prog 196 [.c (.p 9000 0), vi w] [PB L s] fun r os => r = vi (opAt L s w) ∧ os = [PB L s] := by
 have ho : opAt L s w = opIn L s ((List.range' 1 (15 - 1)).filter (fun k : Nat => decide (bl (k : Int) = (w : Int)))) := by rw [opAt, opsL_eq w hw]
 refine cl_of_d follows_mixed false Tryz.func196 rfl (by kernel_rfl) ?_
 simp only [Tryz.f196, tt, seval]
 refine dLoop.intro (fun f' Lo p => ∃ op : Nat, f' 5 = vi op ∧ 1 ≤ op ∧ op ≤ 15 ∧ opAt L s w = opIn L s ((List.range' op (15 - op)).filter (fun k : Nat => decide (bl (k : Int) = (w : Int)))) ∧ Lo = [(9000, .str (PB L s))] ∧ p = none) (fun f' _ _ => (15 - ixS (f' 5)).toNat) [(9000, .str (PB L s))] none ⟨SubO.cons rfl (SubO.nil _), PoSub.none _, ?_⟩ ?_
 ·simp only [tt, seval]
  exact ⟨1, rfl, by omega, by omega, ho⟩
 ·rintro g' Lo p ⟨op, h5, h1, h2, hop, rfl, rfl⟩
  simp only [tt, seval] at h5
  by_cases hle : op ≤ 14
  ·have e0 : ((op : Int) ≤ 14) = True := eq_true (by omega)
   simp only [tt, seval, h5, e0]
   refine cZ (LevelOf_d (Expr.mk 4 op false zVal z0 z0 [] [])) (by decide) ?_ ?_ <;> simp only [tt, seval, lvE_bin, Expr.row_mk, zVal, z0, bae, h5]
   by_cases hb : bl (op : Int) = (w : Int)
   ·have hop := hop.trans (opF_yes hle hb)
    simp only [tt, seval, hb]
    refine cZ (l10Op_d op) (by decide) ?_ ?_ <;> simp only [tt, seval, Tok.row]
    refine cS (l12Next_d L hL hT s 0 (by omega) ha) (by decide) ?_ ?_ <;> simp only [tt, seval, PB, Tok.row]
    have hh := nx_op L s op hle
    refine And.intro (fun hk => ?_) (fun hk => ?_)
    ·rw [hk, Bool.true_and] at hh
     simp only [tt, seval, hk, h5]
     by_cases hx : (nxT L s 0).text = (opTk (op : Int)).text
     ·rw [decide_eq_true hx] at hh
      simp only [tt, seval, hx]
      refine ⟨vi op, [PB L s], ⟨by rw [hop, if_pos hh.symm], rfl⟩, endOk ?_⟩
      simp only [tt, seval, PB]
     ·rw [decide_eq_false hx] at hh
      rw [if_neg (by rw [← hh]; simp)] at hop
      simp only [tt, seval, hx]
      refine ⟨[(9000, .str (PB L s))], none, SubO.cons rfl (SubO.nil _), PoSub.none _, ⟨op + 1, by rw [wr1 (n := op) (by omega)], by omega, by omega, hop, rfl, rfl⟩, ?_⟩
      rw [wr1 (n := op) (by omega)]
      show (15 - ((op + 1 : Nat) : Int)).toNat < (15 - (op : Int)).toNat
      omega
    ·rw [hk, Bool.false_and] at hh
     rw [if_neg (by rw [← hh]; simp)] at hop
     simp only [tt, seval, hk, h5]
     refine ⟨[(9000, .str (PB L s))], none, SubO.cons rfl (SubO.nil _), PoSub.none _, ⟨op + 1, by rw [wr1 (n := op) (by omega)], by omega, by omega, hop, rfl, rfl⟩, ?_⟩
     rw [wr1 (n := op) (by omega)]
     show (15 - ((op + 1 : Nat) : Int)).toNat < (15 - (op : Int)).toNat
     omega
   ·have hop := hop.trans (opF_no hle hb)
    simp only [tt, seval, hb]
    refine ⟨[(9000, .str (PB L s))], none, SubO.cons rfl (SubO.nil _), PoSub.none _, ⟨op + 1, by rw [wr1 (n := op) (by omega)], by omega, by omega, hop, rfl, rfl⟩, ?_⟩
    rw [wr1 (n := op) (by omega)]
    show (15 - ((op + 1 : Nat) : Int)).toNat < (15 - (op : Int)).toNat
    omega
  ·have e0 : ((op : Int) ≤ 14) = False := eq_false (by omega)
   simp only [tt, seval, h5, e0]
   have e : opAt L s w = 0 := by rw [hop, show 15 - op = 0 by omega]; rfl
   refine ⟨vi 0, [PB L s], ⟨by rw [e]; rfl, rfl⟩, endOk ?_⟩
   simp only [tt, seval, PB]
set_option maxHeartbeats 2000000 in
theorem l12Cmp_step (L : List Tok) (hL : L.length ≤ 1048576) (hT : ∀ t ∈ L, t.text.size ≤ 1048576) {f : Nat → PM Expr} {q : PM Query} (ok : ∀ lv, OkM (L := L) (f lv)) (okq : OkM (L := L) q) (hf1 : SpE L 129 [vi 1] (f 1)) (hf5 : SpE L 129 [vi 5] (f 5)) (hq : SpQ L 231 q) : SpE L 192 [] (cmpM L f q) := by
 intro s x s' h ha
 unfold cmpM at h
 split at h
 ·cases h
 rename_i e s1 he
 have o1 := ok 5 _ _ _ he
 have ha1 := o1.2.1 ha
 obtain ⟨k1, p1, n1, v1, q1, m1, ks1, ss1⟩ := e
 have c1 := hf5 _ _ _ he ha
 rw [Expr.row_mk] at c1
 refine cl_of_d follows_mixed false Tryz.func192 rfl (by kernel_rfl) ?_
 simp only [Tryz.f192, tt, seval]
 refine cS (c1) (by decide) ?_ ?_ <;> simp only [tt, seval, PB]
 refine cS (l12Op_d L hL hT s1 4 (by decide) ha1) (by decide) ?_ ?_ <;> simp only [tt, seval, PB]
 by_cases hop : opAt L s1 4 = 0
 ·have e0 : ((0 : Int) < ((opAt L s1 4 : Nat) : Int)) = False := eq_false (by omega)
  rw [if_pos hop] at h
  unfold cmpT at h
  simp only at h
  simp only [tt, seval, e0]
  refine cS (l12Maybe_d L hL hT s1 16 (by omega) (by omega) ha1) (by decide) ?_ ?_ <;> simp only [tt, seval, PB]
  cases c16 : isKey L s1 16 with
  | true =>
   rw [if_pos c16] at h
   injection h with h; injection h with h1 h2; subst h1 h2
   simp only [tt, seval, tkT]
   have ha2 := adv_le (L := L) (isKey_lt c16)
   refine cS (l12Maybe_d L hL hT (adv s1) 15 (by omega) (by omega) ha2) (by decide) ?_ ?_ <;> simp only [tt, seval, PB]
   have o3 : Ok L (adv s1) (tkIf (isKey L (adv s1) 15) (adv s1)) := Ok.tkIf fun h => isKey_lt h
   have ha3 := o3.2.1 ha2
   generalize tkIf (isKey L (adv s1) 15) (adv s1) = u at *
   refine cS (l12Key_d L hL hT u 20 (by omega) (by omega) ha3) (by decide) ?_ ?_ <;> simp only [tt, seval, PB]
   refine cS (l12Step_d L hL hT u (isKey L u 20) (fun h => isKey_lt h)) (by decide) ?_ ?_ <;> simp only [tt, seval, PB]
   refine ⟨.ag (csOf (mKids 5 (isKey L (adv s1) 15) [(Expr.mk k1 p1 n1 v1 q1 m1 ks1 ss1)] []).row), [PB L (must (isKey L u 20) u)], ⟨rfl, rfl⟩, endOk ?_⟩
   simp only [tt, seval, bae, PB, mKids, zVal, z0, Expr.row_mk]
  | false =>
  rw [if_neg (by rw [c16]; simp)] at h
  simp only [tt, seval, tkF]
  refine cS (l12Maybe_d L hL hT s1 15 (by omega) (by omega) ha1) (by decide) ?_ ?_ <;> simp only [tt, seval, PB]
  have o2 : Ok L s1 (tkIf (isKey L s1 15) s1) := Ok.tkIf fun h => isKey_lt h
  have ha2 := o2.2.1 ha1
  generalize tkIf (isKey L s1 15) s1 = u at *
  generalize isKey L s1 15 = n at *
  refine cS (l12Maybe_d L hL hT u 18 (by omega) (by omega) ha2) (by decide) ?_ ?_ <;> simp only [tt, seval, PB]
  cases c18 : isKey L u 18 with
  | true =>
   rw [if_pos c18] at h
   split at h
   ·cases h
   rename_i lo s2 hlo
   split at h
   ·cases h
   rename_i hi s3 hhi
   injection h with h; injection h with h1 h2; subst h1 h2
   simp only [tt, seval, tkT]
   have ha3 := adv_le (L := L) (isKey_lt c18)
   have ha4 := (ok 5 _ _ _ hlo).2.1 ha3
   obtain ⟨k2, p2, n2, v2, q2, m2, ks2, ss2⟩ := lo
   have c2 := hf5 _ _ _ hlo ha3
   rw [Expr.row_mk] at c2
   refine cS (c2) (by decide) ?_ ?_ <;> simp only [tt, seval, PB]
   refine cS (l12Key_d L hL hT s2 13 (by omega) (by omega) ha4) (by decide) ?_ ?_ <;> simp only [tt, seval, PB]
   refine cS (l12Step_d L hL hT s2 (isKey L s2 13) (fun h => isKey_lt h)) (by decide) ?_ ?_ <;> simp only [tt, seval, PB]
   have o5 : Ok L s2 (must (isKey L s2 13) s2) := Ok.must fun h => isKey_lt h
   have ha5 := o5.2.1 ha4
   generalize must (isKey L s2 13) s2 = w at *
   obtain ⟨k3, p3, n3, v3, q3, m3, ks3, ss3⟩ := hi
   have c3 := hf5 _ _ _ hhi ha5
   rw [Expr.row_mk] at c3
   apply dDrawn_j1 2
   case h1 =>
    refine dDrawn.intro [48] (.take 0 (.take 3 (.br 1 (.br 2 (.br 4 (.br 5 (.take 6 (.br 7 .done .nobr)) .nobr) .nobr) (.br 4 (.take 2 (.br 5 (.take 6 (.br 7 .done .nobr)) .nobr)) .nobr)) (.br 2 (.br 1 (.br 4 (.br 5 (.take 6 (.br 7 .done .nobr)) .nobr) .nobr) (.br 4 (.take 1 (.br 5 (.take 6 (.br 7 .done .nobr)) .nobr)) .nobr)) (.br 4 (.take 1 (.take 2 (.br 5 (.take 6 (.br 7 .done .nobr)) .nobr))) .nobr))))) (by kernel_rfl) ?_
    simp only [tt, seval]
    all_goals repeat' first | refine brC ?_ ?_ | refine brC2 ?_ ?_
    all_goals
     refine cS (c3) (by decide) ?_ ?_
     ·simp only [tt, seval, PB]
      decide
     simp only [tt, seval, PB]
    all_goals exact ⟨rfl, rfl, rfl⟩
   case h2 =>
    intro f' hj0
    simp only [tt, seval, hj0]
    refine ⟨.ag (csOf (mKids 6 n [(Expr.mk k1 p1 n1 v1 q1 m1 ks1 ss1), (Expr.mk k2 p2 n2 v2 q2 m2 ks2 ss2), (Expr.mk k3 p3 n3 v3 q3 m3 ks3 ss3)] []).row), [PB L (s3)], ⟨rfl, rfl⟩, endOk ?_⟩
    simp only [tt, seval, bae, PB, mKids, zVal, z0, Expr.row_mk]
  | false =>
  rw [if_neg (by rw [c18]; simp)] at h
  simp only [tt, seval, tkF]
  refine cS (l12Maybe_d L hL hT u 17 (by omega) (by omega) ha2) (by decide) ?_ ?_ <;> simp only [tt, seval, PB]
  cases c17 : isKey L u 17 with
  | true =>
   rw [if_pos c17] at h
   simp only [tt, seval, tkT]
   have ha3 := adv_le (L := L) (isKey_lt c17)
   have c2 := l12Within_step L hL hT (ok 1) okq hf1 hq (Expr.mk k1 p1 n1 v1 q1 m1 ks1 ss1) n _ _ _ h ha3
   obtain ⟨k2, p2, n2, v2, q2, m2, ks2, ss2⟩ := x
   rw [Expr.row_mk, Expr.row_mk] at c2
   refine cS (c2) (by decide) ?_ ?_ <;> simp only [tt, seval, PB]
   refine ⟨.ag (csOf ((Expr.mk k2 p2 n2 v2 q2 m2 ks2 ss2)).row), [PB L (s')], ⟨rfl, rfl⟩, endOk ?_⟩
   simp only [tt, seval, PB, Expr.row_mk]
  | false =>
  rw [if_neg (by rw [c17]; simp)] at h
  injection h with h; injection h with h1 h2; subst h1 h2
  simp only [tt, seval, tkF]
  cases n with
  | true =>
   simp only [tt, seval]
   refine ⟨.ag (csOf ((Expr.mk k1 p1 n1 v1 q1 m1 ks1 ss1)).row), [PB L (⟨u.a, u.b || true⟩)], ⟨rfl, rfl⟩, endOk ?_⟩
   simp only [tt, seval, PB, Expr.row_mk, Bool.or_true]
  | false =>
   simp only [tt, seval]
   refine ⟨.ag (csOf ((Expr.mk k1 p1 n1 v1 q1 m1 ks1 ss1)).row), [PB L (⟨u.a, u.b⟩)], ⟨rfl, rfl⟩, endOk ?_⟩
   simp only [tt, seval, PB, Expr.row_mk]
 ·have e0 : ((0 : Int) < ((opAt L s1 4 : Nat) : Int)) = True := eq_true (by omega)
  rw [if_neg hop] at h
  split at h
  ·cases h
  rename_i y s2 hy
  injection h with h; injection h with h1 h2; subst h1 h2
  simp only [tt, seval, e0]
  refine cS (l12Step_d L hL hT s1 true (fun _ => opAt_lt hop)) (by decide) ?_ ?_ <;> simp only [tt, seval, PB, muT]
  have ha2 := adv_le (L := L) (opAt_lt hop)
  obtain ⟨k2, p2, n2, v2, q2, m2, ks2, ss2⟩ := y
  have c2 := hf5 _ _ _ hy ha2
  rw [Expr.row_mk] at c2
  apply dDrawn_j1 2
  case h1 =>
   refine dDrawn.intro [19] (.take 0 (.take 2 (.br 1 (.br 3 (.br 4 (.take 5 (.br 6 .done .nobr)) .nobr) .nobr) (.br 3 (.take 1 (.br 4 (.take 5 (.br 6 .done .nobr)) .nobr)) .nobr)))) (by kernel_rfl) ?_
   simp only [tt, seval]
   all_goals repeat' first | refine brC ?_ ?_ | refine brC2 ?_ ?_
   all_goals
    refine cS (c2) (by decide) ?_ ?_
    ·simp only [tt, seval, PB]
     decide
    simp only [tt, seval, PB]
   all_goals exact ⟨rfl, rfl, rfl⟩
  case h2 =>
   intro f' hj0
   simp only [tt, seval, hj0]
   refine ⟨.ag (csOf (mBin (opAt L s1 4) (Expr.mk k1 p1 n1 v1 q1 m1 ks1 ss1) (Expr.mk k2 p2 n2 v2 q2 m2 ks2 ss2)).row), [PB L (s2)], ⟨rfl, rfl⟩, endOk ?_⟩
   simp only [tt, seval, bae, PB, mBin, zVal, z0, Expr.row_mk]
end Go.Proofs.YtoegnikpokgbfaaGreatDoor
