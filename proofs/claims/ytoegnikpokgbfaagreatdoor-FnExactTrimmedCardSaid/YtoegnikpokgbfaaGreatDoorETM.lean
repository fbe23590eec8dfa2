/-
  Marks of tokens.
  Conditions: none.
-/
import Derived.Test.YtoegnikpokgbfaaGreatDoorETJ1
set_option linter.unusedVariables false
set_option linter.unusedSimpArgs false
set_option linter.unusedSectionVars false
set_option maxRecDepth 8000
namespace Go.Proofs.YtoegnikpokgbfaaGreatDoor
open Go Go.Dv
open Go.Vc (D shrI xorI andI)
open Go.Cv
theorem Tok.row_mk (kind : Int) (text : ByteArray) (at_ : Int) : (Tok.mk kind text at_).row = [int kind, str text, int at_] := rfl
def szTok (t : Tok) : Nat := t.text.size
def szToks (a : List Tok) : Nat := a.length + (a.map szTok).sum
theorem szTok_mk (kind : Int) (text : ByteArray) (at_ : Int) : szTok (.mk kind text at_) = text.size := rfl
theorem szToks_eq (a : List Tok) : szToks a = a.length + (a.map szTok).sum := rfl
theorem szToks_len {a : List Tok} (h : szToks a ≤ 1048576) : a.length ≤ 1048576 := by unfold szToks at h; omega
theorem szToks_text {a : List Tok} (h : szToks a ≤ 1048576) : ∀ t ∈ a, t.text.size ≤ 1048576 := fun t ht => by
 have : szTok t ≤ (a.map szTok).sum := by
  clear h
  induction a with
  | nil => cases ht
  | cons x r ih =>
   rw [List.map_cons, List.sum_cons]
   rcases List.mem_cons.1 ht with rfl | ht
   ·omega
   ·have := ih ht; omega
 have e : szTok t = t.text.size := rfl
 unfold szToks at h
 omega
theorem szTok_step (kind : Int) (text : ByteArray) (at_ : Int)  (l : Int) (h0 : 0 ≤ l) (h1 : l ≤ 1048576) : Cl Tryz.prog 61 [.ag (csOf (Tok.mk kind text at_).row), vi l] [] fun r _ => r = vi (subL l (szTok (Tok.mk kind text at_))) := by
 rw [szTok_mk, Tok.row_mk]
 refine cl_of_d follows_mixed false Tryz.func61 rfl (by kernel_rfl) ?_
 simp only [Tryz.f61, tt, seval]
 refine fun hs0 => ?_
 rw [wrap_id (n := l - text.size) (by omega) (by omega)]
 refine And.intro (fun h => ?_) (fun h => ?_)
 ·exact ⟨_, _, viE (by rw [subL_gt (by omega)]), end0 rfl⟩
 rw [show (l - text.size : Int) = subL l text.size from (subL_le (by omega)).symm] at *
 exact ⟨_, _, rfl, end0 rfl⟩
theorem szTok_d (t : Tok) (l : Int) (h0 : 0 ≤ l) (h1 : l ≤ 1048576) : Cl Tryz.prog 61 [.ag (csOf t.row), vi l] [] fun r _ => r = vi (subL l (szTok t)) := by
 obtain ⟨a, b, c⟩ := t
 exact szTok_step a b c l h0 h1
theorem szToks_step (a : List Tok) (hx : ∀ x ∈ a, ∀ l : Int, 0 ≤ l → l ≤ 1048576 → Cl Tryz.prog 61 [.ag (csOf x.row), vi l] [] fun r _ => r = vi (subL l (szTok x))) (l : Int) (h0 : 0 ≤ l) (h1 : l ≤ 1048576) : Cl Tryz.prog 21 [.c (.sl a.length (a.flatMap Tok.row) none), vi l] [] fun r _ => r = vi (subL l (szToks a)) := by
 rw [szToks_eq]
 refine cl_of_d follows_mixed false Tryz.func21 rfl (by kernel_rfl) ?_
 simp only [Tryz.f21, tt, seval]
 refine fun hs => ?_
 rw [wrap_id (n := l - a.length) (by omega) (by omega)]
 obtain ⟨tot, htot⟩ : ∃ tot, tot = (a.map szTok).sum := ⟨_, rfl⟩
 refine And.intro (fun h => ?_) (fun h => ?_)
 ·exact ⟨_, _, by rw [subL_gt (by omega)], end0 rfl⟩
 ·refine dLoop.intro (fun f L p => ∃ i : Nat, f 5 = vi i ∧ i ≤ a.length ∧ f 1 = vi (l - a.length - ((a.take i).map szTok).sum) ∧ 0 ≤ l - a.length - (((a.take i).map szTok).sum : Nat) ∧ L = [] ∧ p = none) (fun f _ _ => (a.length - ixS (f 5)).toNat) [] none ⟨SubO.nil _, PoSub.none _, ?_⟩ ?_
  ·simp only [tt, seval]
   exact ⟨0, rfl, by omega, by simp, by simp; omega⟩
  ·rintro g L p ⟨i, h5, hi, h1', hp, rfl, rfl⟩
   simp only [tt, seval] at h5 h1'
   obtain ⟨rst, hr⟩ := take_sum_le szTok a i
   simp only [tt, seval, h5, h1', Int.ofNat_lt]
   refine fun _ => And.intro (fun hlt => ?_) (fun hge => ?_)
   ·have hlt : i < a.length := by omega
    refine ⟨by omega, by omega, _, drop_row Tok.row_len (List.getElem?_eq_getElem hlt), Tok.ne _ _, ?_⟩
    have hts := take_succ_sum szTok hlt
    obtain ⟨rst', hr'⟩ := take_sum_le szTok a (i + 1)
    simp only [tt, seval, h5, h1', Tok.tk, Tok.row_len]
    refine call0 (hx a[i] (List.getElem_mem hlt) _ hp (by omega)) ?_ ?_ ?_
    ·decide
    ·simp only [tt, seval]
    rintro r rfl
    simp only [tt, seval, h5, h1']
    refine And.intro (fun hneg => ?_) (fun hpos => ?_)
    ·refine ⟨_, _, ?_, end0 rfl⟩
     rw [subL_gt]
     have : ¬ ((szTok a[i] : Int) ≤ l - a.length - ((a.take i).map szTok).sum) := fun h => by rw [subL_le h] at hneg; omega
     omega
    ·have hle : ((szTok a[i] : Int) ≤ l - a.length - ((a.take i).map szTok).sum) := Int.not_lt.1 fun h => by rw [subL_gt h] at hpos; omega
     rw [subL_le hle, wrap_id (n := (i : Int) + 1) (by omega) (by omega)]
     exact ⟨[], none, SubO.nil _, PoSub.none _, ⟨i + 1, by simp, by omega, viE (by rw [hts]; omega), by rw [hts]; omega, rfl, rfl⟩, by simp only [ixS]; omega⟩
   ·have : i = a.length := by omega
    subst this
    refine ⟨_, _, ?_, end0 rfl⟩
    rw [List.take_length] at hp
    rw [List.take_length, subL_le (by omega)]
    exact viE (by omega)
theorem szToks_d (a : List Tok) (l : Int) (h0 : 0 ≤ l) (h1 : l ≤ 1048576) : Cl Tryz.prog 21 [.c (.sl a.length (a.flatMap Tok.row) none), vi l] [] fun r _ => r = vi (subL l (szToks a)) := szToks_step a (fun x _ => szTok_d x) l h0 h1
theorem toTok_d (t : Tok) (h : szTok t ≤ 1048576) : Cl Tryz.prog 65 [.ag (csOf t.row)] [] fun r _ => r = .ag (csOf t.row) := by
 obtain ⟨a, b, c⟩ := t
 rw [Tok.row_mk]
 refine cl_of_d follows_mixed false Tryz.func65 rfl (by kernel_rfl) ?_
 simp only [Tryz.f65, tt, seval]
 exact ⟨_, _, rfl, end0 rfl⟩
theorem toToks_step (a : List Tok) (hx : ∀ x ∈ a, szTok x ≤ 1048576 → Cl Tryz.prog 65 [.ag (csOf x.row)] [] fun r _ => r = .ag (csOf x.row)) (h : szToks a ≤ 1048576) : Cl Tryz.prog 23 [.c (.sl a.length (a.flatMap Tok.row) none)] [] fun r _ => r = .c (.ow 61 a.length (a.flatMap Tok.row) none) := by
 rw [szToks_eq] at h
 have hl : a.length ≤ 1048576 := by omega
 refine cl_of_d follows_mixed false Tryz.func23 rfl (by kernel_rfl) ?_
 simp only [Tryz.f23, tt, seval]
 refine fun _ => ⟨by omega, by omega, by omega, ?_⟩
 refine dLoop.intro (fun f L p => ∃ i : Nat, f 4 = vi i ∧ i ≤ a.length ∧ L = [(7, .arr 61 a.length ((a.take i).flatMap Tok.row ++ (List.replicate (a.length - i) [int 0, str ByteArray.empty, int 0]).flatten) none)] ∧ p = none) (fun f _ _ => (a.length - ixS (f 4)).toNat) [(7, .arr 61 a.length (List.replicate a.length [int 0, str ByteArray.empty, int 0]).flatten none)] none ⟨SubO.cons rfl (SubO.nil _), PoSub.none _, ?_⟩ ?_
 ·simp only [tt, seval]
  exact ⟨0, rfl, by omega, by simp⟩
 ·rintro g L p ⟨i, h4, hi, rfl, rfl⟩
  simp only [tt, seval] at h4
  simp only [tt, seval, h4, Int.ofNat_lt]
  refine fun _ => And.intro (fun hlt => ?_) (fun hge => ?_)
  ·have hlt : i < a.length := by omega
   have hts := take_succ_sum szTok hlt
   obtain ⟨rst', hr'⟩ := take_sum_le szTok a (i + 1)
   refine ⟨by omega, by omega, _, drop_row Tok.row_len (List.getElem?_eq_getElem hlt), Tok.ne _ _, ?_⟩
   simp only [tt, seval, h4, Tok.tk, Tok.row_len]
   refine call0 (hx a[i] (List.getElem_mem hlt) (by omega)) ?_ ?_ ?_
   ·decide
   ·simp only [tt, seval]
   rintro r rfl
   simp only [tt, seval, h4, Tok.ds, Tok.row_len]
   refine ⟨by omega, by omega, by rw [fillLen Tok.row_len rfl a (by omega)]; omega, ?_⟩
   rw [wrS i (by omega)]
   exact ⟨_, none, SubO.cons rfl (SubO.nil _), PoSub.none _, ⟨i + 1, rfl, by omega, congrArg (fun x => [(7, O.arr 61 a.length x none)]) (fillRow Tok.row_len rfl hlt), rfl⟩, by simp only [ixS]; omega⟩
  ·have : i = a.length := by omega
   subst this
   rw [fillLast]
   refine ⟨_, [], rfl, endOk ?_⟩
   simp only [tt, seval]
theorem toToks_o (a : List Tok) (h : szToks a ≤ 1048576) : Cl Tryz.prog 23 [.c (.sl a.length (a.flatMap Tok.row) none)] [] fun r _ => r = .c (.ow 61 a.length (a.flatMap Tok.row) none) := toToks_step a (fun x _ => toTok_d x) h
theorem eqTok_step (kind : Int) (text : ByteArray) (at_ : Int)  : Cl Tryz.prog 67 [.ag (csOf (Tok.mk kind text at_).row), .ag (csOf (Tok.mk kind text at_).row)] [] fun r _ => r = vb true := by
 rw [Tok.row_mk]
 refine cl_of_d follows_mixed false Tryz.func67 rfl (by kernel_rfl) ?_
 simp only [Tryz.f67, tt, seval]
 exact ⟨_, _, rfl, end0 rfl⟩
theorem eqToks_step (a : List Tok) (hx : ∀ x ∈ a, Cl Tryz.prog 67 [.ag (csOf x.row), .ag (csOf x.row)] [] fun r _ => r = vb true) : Cl Tryz.prog 26 [.c (.sl a.length (a.flatMap Tok.row) none), .c (.sl a.length (a.flatMap Tok.row) none)] [] fun r _ => r = vb true := by
 refine cl_of_d follows_mixed false Tryz.func26 rfl (by kernel_rfl) ?_
 simp only [Tryz.f26, tt, seval]
 refine fun _ _ => ?_
 refine dLoop.intro (fun f L p => ∃ i : Nat, f 5 = vi i ∧ i ≤ a.length ∧ L = [] ∧ p = none) (fun f _ _ => (a.length - ixS (f 5)).toNat) [] none ⟨SubO.nil _, PoSub.none _, ?_⟩ ?_
 ·simp only [tt, seval]
  exact ⟨0, rfl, by omega⟩
 ·rintro g L p ⟨i, h5, hi, rfl, rfl⟩
  simp only [tt, seval] at h5
  simp only [tt, seval, h5, Int.ofNat_lt]
  refine fun _ => And.intro (fun hlt => ?_) (fun hge => ?_)
  ·have hlt : i < a.length := by omega
   refine dDrawn.intro [] (pln [0, 2, 4, 6, 8, 10, 12, 14, 17, 18]) (by kernel_rfl) ?_
   simp only [tt, seval]
   simp only [tt, seval, h5]
   refine ⟨by omega, by omega, _, drop_row Tok.row_len (List.getElem?_eq_getElem hlt), Tok.ne _ _, ?_⟩
   simp only [tt, seval, h5, Tok.tk, Tok.row_len]
   refine ⟨by omega, by omega, _, drop_row Tok.row_len (List.getElem?_eq_getElem hlt), Tok.ne _ _, ?_⟩
   simp only [tt, seval, h5, Tok.tk, Tok.row_len]
   refine call0 (hx a[i] (List.getElem_mem hlt)) ?_ ?_ ?_
   ·decide
   ·simp only [tt, seval]
   rintro r rfl
   simp only [tt, seval, h5]
   rw [wrS i (by omega)]
   exact ⟨[], none, SubO.nil _, PoSub.none _, ⟨i + 1, rfl, by omega, rfl, rfl⟩, by simp only [ixS]; omega⟩
  ·exact ⟨_, _, rfl, end0 rfl⟩
theorem eqToks_d (a : List Tok) : Cl Tryz.prog 26 [.c (.sl a.length (a.flatMap Tok.row) none), .c (.sl a.length (a.flatMap Tok.row) none)] [] fun r _ => r = vb true := eqToks_step a fun x _ => by
 cases x; exact eqTok_step _ _ _
end Go.Proofs.YtoegnikpokgbfaaGreatDoor
set_option maxRecDepth 8000
namespace Go.Proofs.YtoegnikpokgbfaaGreatDoor
open Go Go.Dv
open Go.Vc (D shrI xorI andI)
open Go.Cv
open Go.Vc (CellF ValsF callable)
theorem Tok.lits : ∀ (l : List Tok), ∀ d ∈ l.flatMap Tok.row, ∃ x, d = .lit x := fun l d hd => by
 obtain ⟨t, _, hd⟩ := List.mem_flatMap.1 hd
 simp only [Tok.row, List.mem_cons, List.not_mem_nil, or_false] at hd
 rcases hd with rfl | rfl | rfl <;> exact ⟨_, rfl⟩
mutual
def cnTok : Tok → Nat
 | .mk kind text at_ => 3
end
mutual
def mkTok : Int → Tok → Tok
 | q, .mk kind text at_ => .mk (q) (mtext (q + 1)) (q + 1 + 1)
end
theorem cnTok_mk (kind : Int) (text : ByteArray) (at_ : Int) : cnTok (.mk kind text at_) = 3 := by simp only [cnTok, ]
theorem mkTok_mk (q : Int) (kind : Int) (text : ByteArray) (at_ : Int) : mkTok q (.mk kind text at_) = .mk (q) (mtext (q + 1)) (q + 1 + 1) := by simp only [mkTok, ]
set_option maxHeartbeats 8000000 in
theorem markToks_step (es : List Tok) : MkC 27 Tok.row mkTok cnTok es := by
 intro w k v F h hn ho hg hlib h0 h1
 obtain ⟨a, cap, rfl, hcap, hmax, hz⟩ := h.slice
 have hmax' : cap ≤ 9223372036854775807 := hmax
 have hM := Mrk.start h hn ho
 clear h hn ho
 refine ⟨by kernel_rfl, calls_of_c (vs := [.slice a es.length cap, .int .i64 k]) Tryz.func27 rfl (Nat.le_of_ble_eq_true rfl) ?_⟩
 simp (maxSteps := 10000000) only [tt, cc, seval, Tryz.f27]
 refine ⟨fun f w1 => ∃ i : Nat, f 5 = vi i ∧ f 1 = vi (k + cnL cnTok (es.take i)) ∧ i ≤ es.length ∧ Mrk w F w1 a ((mkL mkTok cnTok k (es.take i)).flatMap Tok.row) ((es.drop i).flatMap Tok.row), fun f _ => (es.length - ixS (f 5)).toNat, ?_, ?_⟩
 ·simp (maxSteps := 10000000) only [tt, cc, seval]
  exact ⟨0, rfl, viE (by simp [cnL]), by omega, by simpa [mkL] using hM⟩
 ·rintro g w0 ⟨i, h5, h1', hi, hM⟩
  simp (maxSteps := 10000000) only [tt, cc, seval] at h5 h1'
  simp (maxSteps := 10000000) only [tt, cc, seval, h5, h1', Int.ofNat_lt]
  refine And.intro (fun hlt => ?_) (fun hge => ?_)
  ·have hlt : i < es.length := by omega
   have hd : es.drop i = es[i] :: es.drop (i + 1) := List.drop_eq_getElem_cons hlt
   have hks := cnL_take_succ cnTok es i hlt
   have hkl := cnL_take_le cnTok es (i + 1)
   have hts := mkL_take_succ mkTok cnTok k es i hlt
   have hdl : ((mkL mkTok cnTok k (es.take i)).flatMap Tok.row).length = i * 3 := by rw [flatMap_len Tok.row_len, mkL_len, List.length_take]; congr 1; omega
   rw [hd, List.flatMap_cons] at hM
   generalize hk0 : k + (cnL cnTok (es.take i) : Int) = k0 at *
   generalize hdone : (mkL mkTok cnTok k (es.take i)).flatMap Tok.row = done at *
   obtain ⟨e, he⟩ : ∃ e, es[i] = e := ⟨_, rfl⟩
   rw [he] at hks hts hM
   obtain ⟨kind, text, at_⟩ := e
   rw [cnTok_mk] at hks
   simp only [lc, Tok.row_mk, Val.row] at hM
   obtain ⟨b, o, rfl, hM0⟩ := hM.open (by simp)
   clear hM
   have hc0 := hM0.chl
   obtain ⟨q0, z0, w1, e0, hM1⟩ := Mrk1.st hM0 (o + i * 3) (.int .i64 k0) (by simp [hdl]; try omega) trivial
   have hc1 := hM1.chl
   refine ⟨by omega, by omega, q0, z0, w1, e0, Stp.go ?_⟩
   simp (maxSteps := 10000000) only [tt, cc, seval, h5, h1']
   rw [wrap_id (n := k0 + 1) (by omega) (by omega)]
   generalize hk1 : k0 + 1 = k1 at *
   obtain ⟨hcb1, hcl1⟩ := markText_c k1 w1 (glw_chl hc1 hg hlib) (by omega)
   refine ⟨hcb1, _, hcl1, ?_⟩
   rintro _ w2 ⟨rfl, hgr1⟩
   replace hM2 := hM1.grow hgr1
   have hc2 := hM2.chl
   refine Stp.go ?_
   simp (maxSteps := 10000000) only [tt, cc, seval, h5, h1']
   obtain ⟨q1, z1, w3, e2, hM3⟩ := Mrk1.st hM2 (o + i * 3 + 1) (.string (mtext k1)) (by simp [hdl]; try omega) (mtext_ok (by omega))
   have hc3 := hM3.chl
   refine ⟨by omega, by omega, q1, z1, w3, e2, Stp.go ?_⟩
   simp (maxSteps := 10000000) only [tt, cc, seval, h5, h1']
   rw [wrap_id (n := k1 + 1) (by omega) (by omega)]
   generalize hk2 : k1 + 1 = k2 at *
   obtain ⟨q2, z2, w4, e3, hM4⟩ := Mrk1.st hM3 (o + i * 3 + 2) (.int .i64 k2) (by simp [hdl]; try omega) trivial
   have hc4 := hM4.chl
   refine ⟨by omega, by omega, q2, z2, w4, e3, Stp.go ?_⟩
   simp (maxSteps := 10000000) only [tt, cc, seval, h5, h1']
   rw [wrap_id (n := k2 + 1) (by omega) (by omega)]
   generalize hk3 : k2 + 1 = k3 at *
   rw [wrS i (by omega)]
   refine ⟨⟨i + 1, rfl, viE (by rw [hks]; omega), by omega, ?_⟩, by simp only [ixS]; omega⟩
   rw [hts, List.flatMap_append]
   have := hM4.close
   rw [hdone]
   simpa [mkTok_mk, lc, Tok.row_mk, Val.row, hk1, hk2, hk3, mkL_len, int, bool, str] using this
  ·have : i = es.length := by omega
   subst this
   rw [List.take_length, List.drop_length] at hM
   obtain ⟨hc, ho, hcg⟩ := hM.done hcap hmax hz
   exact ⟨by rw [List.take_length], hc, ho, hcg⟩
theorem cnTok_L : ∀ es : List Tok, cnL cnTok es = 3 * es.length
 | [] => rfl
 | e :: es => by rw [cnL, cnTok_L es, List.length_cons]; cases e; rw [cnTok_mk]; omega
theorem mkTok_get (k : Int) (es : List Tok) (i : Nat) (h : i < es.length) : (mkL mkTok cnTok k es)[i]? = some ⟨k + 3 * i, mtext (k + 3 * i + 1), k + 3 * i + 2⟩ := by
 rw [mkL_get mkTok cnTok k es i h, cnTok_L, List.length_take, Nat.min_eq_left (by omega)]
 cases es[i] with
 | mk a b c =>
  rw [mkTok_mk]
  have e : ((3 * i : Nat) : Int) = 3 * (i : Int) := by omega
  rw [e]
  congr 2
  omega
theorem heldToks_d (ms : List Tok) (k : Int) (h0 : 0 ≤ k) (hk : k + 3 * ms.length ≤ 4611686018427387904) (hm : ∀ i (h : i < ms.length), ms[i] = ⟨k + 3 * i, mtext (k + 3 * i + 1), k + 3 * i + 2⟩) : Cl Tryz.prog 32 [.c (.sl ms.length (ms.flatMap Tok.row) none), vi k] [] fun r _ => r = vi (k + 3 * ms.length) := by
 refine cl_of_d follows_mixed false Tryz.func32 rfl (by kernel_rfl) ?_
 simp only [Tryz.f32, tt, seval]
 refine dLoop.intro (fun f L p => ∃ i : Nat, f 5 = vi i ∧ f 1 = vi (k + 3 * i) ∧ i ≤ ms.length ∧ L = [] ∧ p = none) (fun f _ _ => (ms.length - ixS (f 5)).toNat) [] none ⟨SubO.nil _, PoSub.none _, ?_⟩ ?_
 ·simp only [tt, seval]
  exact ⟨0, rfl, viE (by omega), by omega⟩
 ·rintro g L p ⟨i, h5, h1, hi, rfl, rfl⟩
  simp only [tt, seval] at h5 h1
  simp only [tt, seval, h5, h1, Int.ofNat_lt]
  refine fun _ => And.intro (fun hlt => ?_) (fun hge => ?_)
  ·have hlt : i < ms.length := by omega
   have hx := (List.getElem?_eq_getElem hlt).trans (congrArg some (hm i hlt))
   have i0 : ((0 : Int) ≤ (i : Int)) = True := eq_true (by omega)
   have iL : ((i : Int) < (ms.length : Int)) = True := eq_true (by omega)
   have iT : (i < ms.length) = True := eq_true hlt
   simp only [tt, seval, h5, h1, idxAt hx Tok.row_len, i0, iL, iT, Tok.row]
   rw [wrap_id (n := k + 3 * (i : Int) + 1) (by omega) (by omega)]
   refine dDrawn.intro [] (pln [0, 2, 4, 6, 8, 10, 13, 14]) (by kernel_rfl) ?_
   simp only [tt, seval]
   try simp only [tt, seval, h5, h1, idxAt hx Tok.row_len, i0, iL, iT, Tok.row]
   refine cZ (markText_d (k + 3 * i + 1) (by omega)) (by decide) ?_ ?_ <;> simp only [tt, seval, h5, h1, idxAt hx Tok.row_len, i0, iL, iT, Tok.row]
   rw [wrap_id (n := k + 3 * (i : Int) + 1 + 1) (by omega) (by omega)]
   have e2 : k + 3 * (i : Int) + 1 + 1 = k + 3 * i + 2 := by omega
   rw [e2]
   try simp only [tt, seval, h5, h1, idxAt hx Tok.row_len, i0, iL, iT, Tok.row]
   rw [wrap_id (n := k + 3 * (i : Int) + 2 + 1) (by omega) (by omega), wrap_id (n := (i : Int) + 1) (by omega) (by omega)]
   exact ⟨[], none, SubO.nil _, PoSub.none _, ⟨i + 1, rfl, viE (by omega), by omega, rfl, rfl⟩, by simp only [ixS]; omega⟩
  ·have : i = ms.length := by omega
   subst this
   exact ⟨_, _, rfl, end0 rfl⟩
end Go.Proofs.YtoegnikpokgbfaaGreatDoor
