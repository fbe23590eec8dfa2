/-
  The reference and the program, walked: part 2.
  Conditions: none.
-/
import Derived.Test.YteffjmaadkkmeaaGreatDoorYTextA
set_option linter.unusedVariables false
set_option linter.unusedSimpArgs false
set_option linter.unusedSectionVars false
set_option maxRecDepth 8000
namespace Go.Proofs.YteffjmaadkkmeaaGreatDoor
open Go Go.Dv
open Go.Vc (D shrI xorI andI and255)
open Go.Cv
def szTok (t : Tok) : Nat := t.text.size
def szToks (a : List Tok) : Nat := a.length + (a.map szTok).sum
theorem szTok_mk (kind : Int) (text : ByteArray) (at_ : Int) : szTok (.mk kind text at_) = text.size := rfl
theorem szToks_eq (a : List Tok) : szToks a = a.length + (a.map szTok).sum := rfl
theorem szToks_len {a : List Tok} (h : szToks a ≤ 1048576) : a.length ≤ 1048576 := by unfold szToks at h; omega
theorem szToks_text {a : List Tok} (h : szToks a ≤ 1048576) : ∀ t ∈ a, t.text.size ≤ 1048576 := fun t ht => by
 have : szTok t ≤ (a.map szTok).sum := by
  clear h
  induction a with
  | nil => cases ht
  | cons x r ih =>
   rw [List.map_cons, List.sum_cons]
   rcases List.mem_cons.1 ht with rfl | ht
   ·omega
   ·have := ih ht; omega
 have e : szTok t = t.text.size := rfl
 unfold szToks at h
 omega
theorem szTok_step (kind : Int) (text : ByteArray) (at_ : Int)  (l : Int) (h0 : 0 ≤ l) (h1 : l ≤ 1048576) : Cl Tryz.prog 38 [.ag (csOf (Tok.mk kind text at_).row), vi l] [] fun r _ => r = vi (subL l (szTok (Tok.mk kind text at_))) := by
 rw [szTok_mk, Tok.row_mk]
 refine cl_of_d follows_mixed false Tryz.func38 rfl (by kernel_rfl) ?_
 simp only [Tryz.f38, tt, seval]
 refine fun hs0 => ?_
 rw [wrap_id (n := l - text.size) (by omega) (by omega)]
 refine And.intro (fun h => ?_) (fun h => ?_)
 ·exact ⟨_, _, viE (by rw [subL_gt (by omega)]), end0 rfl⟩
 rw [show (l - text.size : Int) = subL l text.size from (subL_le (by omega)).symm] at *
 exact ⟨_, _, rfl, end0 rfl⟩
theorem szTok_d (t : Tok) (l : Int) (h0 : 0 ≤ l) (h1 : l ≤ 1048576) : Cl Tryz.prog 38 [.ag (csOf t.row), vi l] [] fun r _ => r = vi (subL l (szTok t)) := by
 obtain ⟨a, b, c⟩ := t
 exact szTok_step a b c l h0 h1
theorem szToks_step (a : List Tok) (hx : ∀ x ∈ a, ∀ l : Int, 0 ≤ l → l ≤ 1048576 → Cl Tryz.prog 38 [.ag (csOf x.row), vi l] [] fun r _ => r = vi (subL l (szTok x))) (l : Int) (h0 : 0 ≤ l) (h1 : l ≤ 1048576) : Cl Tryz.prog 10 [.c (.sl a.length (a.flatMap Tok.row) none), vi l] [] fun r _ => r = vi (subL l (szToks a)) := by
 rw [szToks_eq]
 refine cl_of_d follows_mixed false Tryz.func10 rfl (by kernel_rfl) ?_
 simp only [Tryz.f10, tt, seval]
 refine fun hs => ?_
 rw [wrap_id (n := l - a.length) (by omega) (by omega)]
 obtain ⟨tot, htot⟩ : ∃ tot, tot = (a.map szTok).sum := ⟨_, rfl⟩
 refine And.intro (fun h => ?_) (fun h => ?_)
 ·exact ⟨_, _, by rw [subL_gt (by omega)], end0 rfl⟩
 ·refine dLoop.intro (fun f L p => ∃ i : Nat, f 5 = vi i ∧ i ≤ a.length ∧ f 1 = vi (l - a.length - ((a.take i).map szTok).sum) ∧ 0 ≤ l - a.length - (((a.take i).map szTok).sum : Nat) ∧ L = [] ∧ p = none) (fun f _ _ => (a.length - ixS (f 5)).toNat) [] none ⟨SubO.nil _, PoSub.none _, ?_⟩ ?_
  ·simp only [tt, seval]
   exact ⟨0, rfl, by omega, by simp, by simp; omega⟩
  ·rintro g L p ⟨i, h5, hi, h1', hp, rfl, rfl⟩
   simp only [tt, seval] at h5 h1'
   obtain ⟨rst, hr⟩ := take_sum_le szTok a i
   simp only [tt, seval, h5, h1', Int.ofNat_lt]
   refine fun _ => And.intro (fun hlt => ?_) (fun hge => ?_)
   ·have hlt : i < a.length := by omega
    refine ⟨by omega, by omega, _, drop_row Tok.row_len (List.getElem?_eq_getElem hlt), Tok.ne _ _, ?_⟩
    have hts := take_succ_sum szTok hlt
    obtain ⟨rst', hr'⟩ := take_sum_le szTok a (i + 1)
    simp only [tt, seval, h5, h1', Tok.tk, Tok.row_len]
    refine call0 (hx a[i] (List.getElem_mem hlt) _ hp (by omega)) ?_ ?_ ?_
    ·decide
    ·simp only [tt, seval]
    rintro r rfl
    simp only [tt, seval, h5, h1']
    refine And.intro (fun hneg => ?_) (fun hpos => ?_)
    ·refine ⟨_, _, ?_, end0 rfl⟩
     rw [subL_gt]
     have : ¬ ((szTok a[i] : Int) ≤ l - a.length - ((a.take i).map szTok).sum) := fun h => by rw [subL_le h] at hneg; omega
     omega
    ·have hle : ((szTok a[i] : Int) ≤ l - a.length - ((a.take i).map szTok).sum) := Int.not_lt.1 fun h => by rw [subL_gt h] at hpos; omega
     rw [subL_le hle, wrap_id (n := (i : Int) + 1) (by omega) (by omega)]
     exact ⟨[], none, SubO.nil _, PoSub.none _, ⟨i + 1, by simp, by omega, viE (by rw [hts]; omega), by rw [hts]; omega, rfl, rfl⟩, by simp only [ixS]; omega⟩
   ·have : i = a.length := by omega
    subst this
    refine ⟨_, _, ?_, end0 rfl⟩
    rw [List.take_length] at hp
    rw [List.take_length, subL_le (by omega)]
    exact viE (by omega)
theorem szToks_d (a : List Tok) (l : Int) (h0 : 0 ≤ l) (h1 : l ≤ 1048576) : Cl Tryz.prog 10 [.c (.sl a.length (a.flatMap Tok.row) none), vi l] [] fun r _ => r = vi (subL l (szToks a)) := szToks_step a (fun x _ => szTok_d x) l h0 h1
theorem toTok_d (t : Tok) (h : szTok t ≤ 1048576) : Cl Tryz.prog 41 [.ag (csOf t.row)] [] fun r _ => r = .ag (csOf t.row) := by
 obtain ⟨a, b, c⟩ := t
 rw [Tok.row_mk]
 refine cl_of_d follows_mixed false Tryz.func41 rfl (by kernel_rfl) ?_
 simp only [Tryz.f41, tt, seval]
 exact ⟨_, _, rfl, end0 rfl⟩
theorem toToks_step (a : List Tok) (hx : ∀ x ∈ a, szTok x ≤ 1048576 → Cl Tryz.prog 41 [.ag (csOf x.row)] [] fun r _ => r = .ag (csOf x.row)) (h : szToks a ≤ 1048576) : Cl Tryz.prog 12 [.c (.sl a.length (a.flatMap Tok.row) none)] [] fun r _ => r = .c (.ow 76 a.length (a.flatMap Tok.row) none) := by
 rw [szToks_eq] at h
 have hl : a.length ≤ 1048576 := by omega
 refine cl_of_d follows_mixed false Tryz.func12 rfl (by kernel_rfl) ?_
 simp only [Tryz.f12, tt, seval]
 refine fun _ => ⟨by omega, by omega, by omega, ?_⟩
 refine dLoop.intro (fun f L p => ∃ i : Nat, f 4 = vi i ∧ i ≤ a.length ∧ L = [(7, .arr 76 a.length ((a.take i).flatMap Tok.row ++ (List.replicate (a.length - i) [int 0, str ByteArray.empty, int 0]).flatten) none)] ∧ p = none) (fun f _ _ => (a.length - ixS (f 4)).toNat) [(7, .arr 76 a.length (List.replicate a.length [int 0, str ByteArray.empty, int 0]).flatten none)] none ⟨SubO.cons rfl (SubO.nil _), PoSub.none _, ?_⟩ ?_
 ·simp only [tt, seval]
  exact ⟨0, rfl, by omega, by simp⟩
 ·rintro g L p ⟨i, h4, hi, rfl, rfl⟩
  simp only [tt, seval] at h4
  simp only [tt, seval, h4, Int.ofNat_lt]
  refine fun _ => And.intro (fun hlt => ?_) (fun hge => ?_)
  ·have hlt : i < a.length := by omega
   have hts := take_succ_sum szTok hlt
   obtain ⟨rst', hr'⟩ := take_sum_le szTok a (i + 1)
   refine ⟨by omega, by omega, _, drop_row Tok.row_len (List.getElem?_eq_getElem hlt), Tok.ne _ _, ?_⟩
   simp only [tt, seval, h4, Tok.tk, Tok.row_len]
   refine call0 (hx a[i] (List.getElem_mem hlt) (by omega)) ?_ ?_ ?_
   ·decide
   ·simp only [tt, seval]
   rintro r rfl
   simp only [tt, seval, h4, Tok.ds, Tok.row_len]
   refine ⟨by omega, by omega, by rw [fillLen Tok.row_len rfl a (by omega)]; omega, ?_⟩
   rw [wrS i (by omega)]
   exact ⟨_, none, SubO.cons rfl (SubO.nil _), PoSub.none _, ⟨i + 1, rfl, by omega, congrArg (fun x => [(7, O.arr 76 a.length x none)]) (fillRow Tok.row_len rfl hlt), rfl⟩, by simp only [ixS]; omega⟩
  ·have : i = a.length := by omega
   subst this
   rw [fillLast]
   refine ⟨_, [], rfl, endOk ?_⟩
   simp only [tt, seval]
theorem toToks_o (a : List Tok) (h : szToks a ≤ 1048576) : Cl Tryz.prog 12 [.c (.sl a.length (a.flatMap Tok.row) none)] [] fun r _ => r = .c (.ow 76 a.length (a.flatMap Tok.row) none) := toToks_step a (fun x _ => toTok_d x) h
theorem eqTok_step (kind : Int) (text : ByteArray) (at_ : Int)  : Cl Tryz.prog 47 [.ag (csOf (Tok.mk kind text at_).row), .ag (csOf (Tok.mk kind text at_).row)] [] fun r _ => r = vb true := by
 rw [Tok.row_mk]
 refine cl_of_d follows_mixed false Tryz.func47 rfl (by kernel_rfl) ?_
 simp only [Tryz.f47, tt, seval]
 exact ⟨_, _, rfl, end0 rfl⟩
theorem eqToks_step (a : List Tok) (hx : ∀ x ∈ a, Cl Tryz.prog 47 [.ag (csOf x.row), .ag (csOf x.row)] [] fun r _ => r = vb true) : Cl Tryz.prog 15 [.c (.sl a.length (a.flatMap Tok.row) none), .c (.sl a.length (a.flatMap Tok.row) none)] [] fun r _ => r = vb true := by
 refine cl_of_d follows_mixed false Tryz.func15 rfl (by kernel_rfl) ?_
 simp only [Tryz.f15, tt, seval]
 refine fun _ _ => ?_
 refine dLoop.intro (fun f L p => ∃ i : Nat, f 5 = vi i ∧ i ≤ a.length ∧ L = [] ∧ p = none) (fun f _ _ => (a.length - ixS (f 5)).toNat) [] none ⟨SubO.nil _, PoSub.none _, ?_⟩ ?_
 ·simp only [tt, seval]
  exact ⟨0, rfl, by omega⟩
 ·rintro g L p ⟨i, h5, hi, rfl, rfl⟩
  simp only [tt, seval] at h5
  simp only [tt, seval, h5, Int.ofNat_lt]
  refine fun _ => And.intro (fun hlt => ?_) (fun hge => ?_)
  ·have hlt : i < a.length := by omega
   refine dDrawn.intro [] (pln [0, 2, 4, 6, 8, 10, 12, 14, 17, 18]) (by kernel_rfl) ?_
   simp only [tt, seval]
   simp only [tt, seval, h5]
   refine ⟨by omega, by omega, _, drop_row Tok.row_len (List.getElem?_eq_getElem hlt), Tok.ne _ _, ?_⟩
   simp only [tt, seval, h5, Tok.tk, Tok.row_len]
   refine ⟨by omega, by omega, _, drop_row Tok.row_len (List.getElem?_eq_getElem hlt), Tok.ne _ _, ?_⟩
   simp only [tt, seval, h5, Tok.tk, Tok.row_len]
   refine call0 (hx a[i] (List.getElem_mem hlt)) ?_ ?_ ?_
   ·decide
   ·simp only [tt, seval]
   rintro r rfl
   simp only [tt, seval, h5]
   rw [wrS i (by omega)]
   exact ⟨[], none, SubO.nil _, PoSub.none _, ⟨i + 1, rfl, by omega, rfl, rfl⟩, by simp only [ixS]; omega⟩
  ·exact ⟨_, _, rfl, end0 rfl⟩
theorem eqToks_d (a : List Tok) : Cl Tryz.prog 15 [.c (.sl a.length (a.flatMap Tok.row) none), .c (.sl a.length (a.flatMap Tok.row) none)] [] fun r _ => r = vb true := eqToks_step a fun x _ => by
 cases x; exact eqTok_step _ _ _
end Go.Proofs.YteffjmaadkkmeaaGreatDoor
set_option maxRecDepth 8000
namespace Go.Proofs.YteffjmaadkkmeaaGreatDoor
open Go Go.Dv
open Go.Vc (D shrI xorI andI and255)
open Go.RowKit (Below)
theorem KeyText_d (k : Nat) (h1 : 1 ≤ k) (h2 : k ≤ 28) : Cl Tryz.prog 161 [vi k] [] fun r _ => r = vs (kw k) := by
 refine cl_of_d follows_mixed false Tryz.func161 rfl (by kernel_rfl) ?_
 simp only [Tryz.f161, tt, seval]
 refine call0 (l1In_d k 1 28) ?_ ?_ ?_
 ·decide
 ·simp only [tt, seval]
 rintro r rfl
 simp only [tt, seval]
 simp only [tt, seval, decide_eq_true (show (1 : Int) ≤ k ∧ (k : Int) ≤ 28 by omega)]
 refine call0 (l2Words_d) ?_ ?_ ?_
 ·decide
 ·simp only [tt, seval]
 rintro r rfl
 simp only [tt, seval]
 have hlt : k < words.length := by show _ < 29; omega
 refine ⟨by omega, by omega, _, drop_row srow_len (List.getElem?_eq_getElem hlt), srow_ne _ _, ?_⟩
 simp only [tt, seval, srow_tk, srow]
 exact ⟨_, _, vsE (by rw [kw, List.getD_eq_getElem?_getD, List.getElem?_eq_getElem hlt]; rfl), end0 rfl⟩
theorem opW_row : ([.lit (.string ⟨#[]⟩), .lit (.string ⟨#[79, 82]⟩), .lit (.string ⟨#[65, 78, 68]⟩), .lit (.string ⟨#[61]⟩), .lit (.string ⟨#[60, 62]⟩), .lit (.string ⟨#[60]⟩), .lit (.string ⟨#[60, 61]⟩), .lit (.string ⟨#[62]⟩), .lit (.string ⟨#[62, 61]⟩), .lit (.string ⟨#[124, 124]⟩), .lit (.string ⟨#[43]⟩), .lit (.string ⟨#[45]⟩), .lit (.string ⟨#[42]⟩), .lit (.string ⟨#[47]⟩), .lit (.string ⟨#[37]⟩), .lit (.string ⟨#[78, 79, 84]⟩), .lit (.string ⟨#[45]⟩)] : List D) = opW.flatMap srow := rfl
theorem opW_tail : ([.lit (.string ⟨#[79, 82]⟩), .lit (.string ⟨#[65, 78, 68]⟩), .lit (.string ⟨#[61]⟩), .lit (.string ⟨#[60, 62]⟩), .lit (.string ⟨#[60]⟩), .lit (.string ⟨#[60, 61]⟩), .lit (.string ⟨#[62]⟩), .lit (.string ⟨#[62, 61]⟩), .lit (.string ⟨#[124, 124]⟩), .lit (.string ⟨#[43]⟩), .lit (.string ⟨#[45]⟩), .lit (.string ⟨#[42]⟩), .lit (.string ⟨#[47]⟩), .lit (.string ⟨#[37]⟩), .lit (.string ⟨#[78, 79, 84]⟩), .lit (.string ⟨#[45]⟩)] : List D) = opW.tail.flatMap srow := rfl
theorem OpText_d (k : Int) : Cl Tryz.prog 220 [vi k] [] fun r _ => r = vs (opT k) := by
 refine cl_of_d follows_mixed false Tryz.func220 rfl (by kernel_rfl) ?_
 simp only [Tryz.f220, tt, seval]
 refine call0 (l1In_d k 1 16) ?_ ?_ ?_
 ·decide
 ·simp only [tt, seval]
 rintro r rfl
 simp only [tt, seval]
 refine And.intro (fun hc => ?_) (fun hc => ?_)
 ·exact ⟨_, _, vsE (by rw [opT, if_neg (by simpa only [Bool.not_eq_true', decide_eq_false_iff_not] using hc)]), end0 rfl⟩
 ·have hc : 1 ≤ k ∧ k ≤ 16 := by simpa only [Bool.not_eq_false', decide_eq_true_eq] using hc
  have hlt : k.toNat < opW.length := by show _ < 17; omega
  try simp only [tt, seval]
  refine ⟨by omega, by omega, ?_⟩
  rw [opW_row, drop_row srow_len (List.getElem?_eq_getElem hlt)]
  simp only [tt, seval, srow_tk, srow]
  exact ⟨_, _, vsE (by rw [opT, if_pos hc, List.getD_eq_getElem?_getD, List.getElem?_eq_getElem hlt]; rfl), end0 rfl⟩
theorem iOpText_d (k : Int) : Cl Tryz.prog 222 [vi k] [] fun r _ => r = vs (opT k) := by
 refine cl_of_d follows_mixed false Tryz.func222 rfl (by kernel_rfl) ?_
 simp only [Tryz.f222, tt, seval]
 by_cases h1 : k < 1
 ·simp only [tt, seval, decide_eq_true h1]
  exact ⟨_, _, vsE (by rw [opT, if_neg (by omega)]), end0 rfl⟩
 ·simp only [tt, seval, decide_eq_false h1]
  refine And.intro (fun h2 => ?_) (fun h2 => ?_)
  ·exact ⟨_, _, vsE (by rw [opT, if_neg (by omega)]), end0 rfl⟩
  ·have hc : 1 ≤ k ∧ k ≤ 16 := by omega
   have hlt : (k - 1).toNat < opW.tail.length := by show _ < 16; omega
   rw [wrap_id (n := k - 1) (by omega) (by omega)]
   refine ⟨by omega, by omega, ?_⟩
   rw [opW_tail, drop_row srow_len (List.getElem?_eq_getElem hlt)]
   simp only [tt, seval, srow_tk, srow]
   have hlt' : k.toNat < opW.length := by show _ < 17; omega
   refine ⟨_, _, vsE ?_, end0 rfl⟩
   rw [opT, if_pos hc, List.getD_eq_getElem?_getD, List.getElem?_eq_getElem hlt']
   simp only [List.getElem_tail, Option.getD_some, show (k - 1).toNat + 1 = k.toNat by omega]
theorem und_err : Tryz.prog.underlying 203 = some (.interface (Tryz.prog.methodsAt 203)) := by kernel_rfl
theorem pu_enil {n : Nat} {d : Option Nat} {K : K0} {f : Rg} {L : Ob} {p : Po} {x : Operand} : dPure Tryz.prog n d (do eqGuard .neq 203 x (.const .nilIface) .nilIface .nilIface; binOp .neq 203 .nilIface .nilIface) K f L p = K (put n f d (.c (.v (.bool false)))) L p :=
 dPure_of (fun w => by rw [Sem.run_bind]; simp [eqGuard, run_neq_nil_nil w 203 und_err]) trivial
theorem pu_eif {n : Nat} {d : Option Nat} {K : K0} {f : Rg} {L : Ob} {p : Po} {x y : Operand} {u : TypeId} {v : Value} : dPure Tryz.prog n d (do eqGuard .neq 203 x y (.iface u v) .nilIface; binOp .neq 203 (.iface u v) .nilIface) K f L p = K (put n f d (.c (.v (.bool true)))) L p :=
 dPure_of (fun w => by rw [Sem.run_bind]; simp [eqGuard, run_neq_held_nil w 203 u v und_err]) trivial
theorem gl_errs {w : World} {own : Nat → Prop} (h : GlW w own) : (∃ v, w.cell? ⟨1, 0, none⟩ = some v ∧ (v = .nilIface ∨ ∃ t p, v = .iface t p)) ∧ (∃ v, w.cell? ⟨2, 0, none⟩ = some v ∧ (v = .nilIface ∨ ∃ t p, v = .iface t p)) := by
 constructor
 ·obtain ⟨_, cs, ty, lh, h2, v, h3, h4⟩ := h _ (List.mem_cons_of_mem _ (List.mem_cons_of_mem _ (List.mem_cons_self)))
  exact ⟨v, by simp only [World.cell?, h2]; exact h3, h4⟩
 ·obtain ⟨_, cs, ty, lh, h2, v, h3, h4⟩ := h _ (List.mem_cons_of_mem _ (List.mem_cons_of_mem _ (List.mem_cons_of_mem _ (List.mem_cons_self))))
  exact ⟨v, by simp only [World.cell?, h2]; exact h3, h4⟩
def atoiR (s : ByteArray) (r : S) : Prop := ∃ n e, r = .tu [([.v (.int .i64 n)], true), ([.v e], true)] ∧ ((e = .nilIface ∧ Lib.atoiAll s.data.toList = .ok n) ∨ ((∃ t p, e = .iface t p) ∧ ∀ v, Lib.atoiAll s.data.toList ≠ .ok v))
theorem Atoi_d (s : ByteArray) (hs : s.size ≤ 1048576) : Cl Tryz.prog 226 [vs s] [] fun r _ => atoiR s r :=
 Cl.ofNew (by kernel_rfl) [.string s] fun w hg => by
  obtain ⟨⟨ev, h4, h4'⟩, ⟨ev', h5, h5'⟩⟩ := gl_errs hg
  rcases ha : Lib.atoiAll s.data.toList with v | _ | _
  ·skip
   refine (Any.strconv_Atoi_ok Tryz.laysC172 s (by omega) v ha w).mono ?_
   rintro e w' ⟨rfl, hw⟩
   refine ⟨_, .tu [([.v (.int .i64 v)], true), ([.v .nilIface], true)], rfl, ⟨v, _, rfl, .inl ⟨rfl, ha⟩⟩, rfl, fun β => ⟨_, rfl, ⟨⟨rfl, trivial⟩, trivial⟩, ⟨⟨rfl, trivial⟩, trivial⟩, trivial⟩, ?_⟩
   rcases hw with rfl | ⟨t, rfl⟩
   ·exact Below.refl _ _
   ·exact Lib.bytesWorld_below _ _ _
  ·refine (Any.strconv_Atoi_syntax Tryz.laysC172 s (by omega) ha ev w h4 h4').mono ?_
   rintro e w' ⟨N, rfl, _, _, hb⟩
   exact ⟨_, .tu [([.v (.int .i64 _)], true), ([.v (.iface _ _)], true)], rfl, ⟨_, _, rfl, .inr ⟨⟨_, _, rfl⟩, fun v h => by rw [ha] at h; cases h⟩⟩, rfl, fun β => ⟨_, rfl, ⟨⟨rfl, trivial⟩, trivial⟩, ⟨⟨rfl, trivial⟩, trivial⟩, trivial⟩, hb⟩
  ·refine (Any.strconv_Atoi_range Tryz.laysC172 s (by omega) ha ev' w h5 h5').mono ?_
   rintro e w' ⟨N, rfl, _, _, hb⟩
   exact ⟨_, .tu [([.v (.int .i64 _)], true), ([.v (.iface _ _)], true)], rfl, ⟨_, _, rfl, .inr ⟨⟨_, _, rfl⟩, fun v h => by rw [ha] at h; cases h⟩⟩, rfl, fun β => ⟨_, rfl, ⟨⟨rfl, trivial⟩, trivial⟩, ⟨⟨rfl, trivial⟩, trivial⟩, trivial⟩, hb⟩
def numOk (s : ByteArray) : Bool := (numN s.data.toList).isSome
def numV (s : ByteArray) : Int := ((numN s.data.toList).getD 0 : Nat)
def numS (s : ByteArray) : S := .tu [([.v (.int .i64 (numV s))], true), ([.v (.bool (numOk s))], true)]
theorem iNumber_d (s : ByteArray) (hs : s.size ≤ 1048576) : Cl Tryz.prog 169 [vs s] [] fun r _ => r = numS s := by
 refine cl_of_d follows_mixed false Tryz.func169 rfl (by kernel_rfl) ?_
 simp only [Tryz.f169, tt, seval]
 refine call0 (Atoi_d s hs) ?_ ?_ ?_
 ·decide
 ·simp only [tt, seval]
 rintro r ⟨n, e, rfl, hh⟩
 simp only [tt, seval]
 rcases hh with ⟨rfl, ha⟩ | ⟨⟨tt', pp, rfl⟩, hne⟩
 ·rw [pu_enil]
  simp only [tt, seval]
  have hb := Lib.atoiAll_bounds ha
  by_cases hn : n < 0
  ·simp only [tt, seval, decide_eq_true hn]
   have hno : numN s.data.toList = none := by
    cases hc : numN s.data.toList with
    | none => rfl
    | some m => have := atoi_numN hc; rw [ha] at this; injection this; omega
   exact ⟨_, _, by rw [numS, numV, numOk, hno]; rfl, end0 rfl⟩
  ·simp only [tt, seval, decide_eq_false hn]
   refine call0 (iDigits_d n (by omega) (by omega)) ?_ ?_ ?_
   ·decide
   ·simp only [tt, seval]
   rintro r rfl
   simp only [tt, seval]
   refine And.intro (fun he => ?_) (fun he => ?_)
   ·have he' : ¬ itoaB n = s := by simpa only [Bool.not_eq_true', decide_eq_false_iff_not] using he
    have hno : numN s.data.toList = none := by
     cases hc : numN s.data.toList with
     | none => rfl
     | some m =>
      have h1 := atoi_numN hc
      obtain ⟨_, h2⟩ := numN_some.1 hc
      rw [ha] at h1
      injection h1 with h1
      refine absurd (ba_ext ?_) he'
      rw [itoaB, h1, itoa_nat, h2]
    exact ⟨_, _, by rw [numS, numV, numOk, hno]; rfl, end0 rfl⟩
   ·have he' : itoaB n = s := by simpa only [Bool.not_eq_false', decide_eq_true_eq] using he
    have hc := numN_atoi ha (by omega) (by rw [← he']; rfl)
    exact ⟨_, _, by rw [numS, numV, numOk, hc]; simp only [Option.getD_some, Option.isSome_some, Int.toNat_of_nonneg (show 0 ≤ n by omega)], end0 rfl⟩
 ·rw [pu_eif]
  simp only [tt, seval]
  have hno : numN s.data.toList = none := by
   cases hc : numN s.data.toList with
   | none => rfl
   | some m => exact absurd (atoi_numN hc) (hne _)
  exact ⟨_, _, by rw [numS, numV, numOk, hno]; rfl, end0 rfl⟩
theorem Number_d (s : ByteArray) (hs : s.size ≤ 1048576) : Cl Tryz.prog 99 [vs s] [] fun r _ => r = numS s := by
 obtain ⟨l, hl⟩ : ∃ l, l = s.data.toList := ⟨_, rfl⟩
 have hll : l.length = s.size := by rw [hl]; exact size_toList s
 refine cl_of_d follows_mixed false Tryz.func99 rfl (by kernel_rfl) ?_
 simp only [Tryz.f99, tt, seval]
 refine fun _ => ?_
 have none_of (h : numN l = none) : numS s = .tu [([.v (.int .i64 0)], true), ([.v (.bool false)], true)] := by rw [numS, numV, numOk, ← hl, h]; rfl
 have fin0 (h : numN l = none) {L : Ob} {p : Po} : ∃ r objs, r = numS s ∧ EndOk L p (.tu [([.v (.int .i64 0)], true), ([.v (.bool false)], true)]) r 0 objs := ⟨_, [], rfl, by rw [none_of h]; exact end0 rfl⟩
 by_cases hs1 : (s.size : Int) < 1
 ·simp only [tt, seval, decide_eq_true hs1]
  exact fin0 (by
   cases hc : numN l with
   | none => rfl
   | some m =>
    obtain ⟨_, h2⟩ := numN_some.1 hc
    obtain ⟨b, r, h3, _⟩ := decDigits_head m
    have : l.length = 0 := by omega
    rw [← h2, h3] at this; simp at this)
 ·simp only [tt, seval, decide_eq_false hs1]
  refine fun _ => And.intro (fun hs2 => ?_) (fun hs2 => ?_)
  ·exact fin0 (by
    cases hc : numN l with
    | none => rfl
    | some m =>
     obtain ⟨h1, h2⟩ := numN_some.1 hc
     have := decDigits_len m 18 (by omega)
     rw [h2] at this; omega)
  ·skip
   refine dLoop.intro (fun f' L p => ∃ i n : Nat, f' 5 = vi i ∧ f' 4 = vi n ∧ i ≤ l.length ∧ Lib.decFrom 0 (l.take i) = some n ∧ n ≤ 9223372036854775807 ∧ L = [] ∧ p = none) (fun f' _ _ => (s.size - ixS (f' 5)).toNat) [] none ⟨SubO.nil _, PoSub.none _, ?_⟩ ?_
   ·simp only [tt, seval]
    exact ⟨0, 0, rfl, rfl, by omega, rfl, by omega⟩
   ·rintro g L p ⟨i, n, h5, h4, hi, hd, hn, rfl, rfl⟩
    simp only [tt, seval] at h5 h4
    simp only [tt, seval, h5, h4, Int.ofNat_lt]
    refine fun _ => And.intro (fun hlt => ?_) (fun hge => ?_)
    ·have hil : i < l.length := by omega
     have hget : l[i]? = some l[i] := List.getElem?_eq_getElem hil
     rw [pu_at hl hil]
     simp only [tt, seval, h5, h4]
     have dn (h : ¬ (48 ≤ l[i].toNat ∧ l[i].toNat ≤ 57)) : numN l = none := by
      unfold numN
      rw [decFrom_none hget (by unfold Lib.digitVal; rw [if_neg h]) 0]
     by_cases hb : (l[i].toNat : Int) < 48
     ·simp only [tt, seval, decide_eq_true hb]
      exact fin0 (dn (by omega))
     ·simp only [tt, seval, decide_eq_false hb, h5, h4]
      rw [pu_at hl hil]
      simp only [tt, seval, h5, h4]
      refine And.intro (fun hb2 => ?_) (fun hb2 => ?_)
      ·exact fin0 (dn (by omega))
      ·try simp only [tt, seval, h5, h4]
       rw [pu_at hl hil]
       simp only [tt, seval, h5, h4]
       have hbb : 48 ≤ l[i].toNat ∧ l[i].toNat ≤ 57 := by omega
       obtain ⟨d, hd48⟩ : ∃ d : Nat, l[i].toNat = 48 + d := ⟨l[i].toNat - 48, by omega⟩
       have hd9 : d ≤ 9 := by omega
       have hdv : Lib.digitVal l[i] = some d := by unfold Lib.digitVal; rw [if_pos hbb, hd48]; congr 1; omega
       have hsn : Lib.decFrom 0 (l.take (i + 1)) = some (n * 10 + d) := by rw [List.take_succ_eq_append_getElem hil, decFrom_snoc, hd, hdv]
       rw [hd48, wrap_id (n := ((48 + d : Nat) : Int)) (by omega) (by omega), wrap_id (n := ((48 + d : Nat) : Int) - 48) (by omega) (by omega), wrap_id (n := 9223372036854775807 - (((48 + d : Nat) : Int) - 48)) (by omega) (by omega)]
       have ht : (9223372036854775807 - (((48 + d : Nat) : Int) - 48)).tdiv 10 = (((9223372036854775807 - d) / 10 : Nat) : Int) := by
        rw [Int.tdiv_eq_ediv_of_nonneg (by omega)]; omega
       rw [ht, wrap_id (n := (((9223372036854775807 - d) / 10 : Nat) : Int)) (by omega) (by omega)]
       refine And.intro (fun ho => ?_) (fun ho => ?_)
       ·exact fin0 (by
         cases hc : numN l with
         | none => rfl
         | some m =>
          obtain ⟨h1, h2⟩ := numN_some.1 hc
          have hm := decFrom_digits m
          rw [h2] at hm
          have hsp : ∀ (a b : List UInt8) (acc : Nat), Lib.decFrom acc (a ++ b) = (Lib.decFrom acc a).bind fun x => Lib.decFrom x b := by
           intro a
           induction a with
           | nil => intro b acc; rfl
           | cons c r ih =>
            intro b acc
            simp only [List.cons_append, Lib.decFrom]
            cases Lib.digitVal c with
            | none => rfl
            | some d => exact ih b _
          have := hsp (l.take (i + 1)) (l.drop (i + 1)) 0
          rw [List.take_append_drop, hm, hsn] at this
          have := decFrom_ge _ _ _ this.symm
          omega)
       ·rw [wrap_id (n := 10 * (n : Int)) (by omega) (by omega), wrap_id (n := 10 * (n : Int) + (((48 + d : Nat) : Int) - 48)) (by omega) (by omega), wrap_id (n := (i : Int) + 1) (by omega) (by omega)]
        exact ⟨[], none, SubO.nil _, PoSub.none _, ⟨i + 1, n * 10 + d, by simp, viE (by omega), by omega, hsn, by omega, rfl, rfl⟩, by simp only [ixS]; omega⟩
    ·have : i = l.length := by omega
     subst this
     rw [List.take_length] at hd
     refine call0 (Digits_d n (by omega) (by omega)) ?_ ?_ ?_
     ·decide
     ·simp only [tt, seval, h5, h4]
     rintro r rfl
     simp only [tt, seval, h5, h4]
     refine And.intro (fun he => ?_) (fun he => ?_)
     ·have he' : ¬ itoaB n = s := by simpa only [Bool.not_eq_true', decide_eq_false_iff_not] using he
      exact fin0 (by
       unfold numN
       rw [hd]
       refine if_neg fun hc => he' (ba_ext ?_)
       rw [itoaB, itoa_nat, hc.2, hl])
     ·have he' : itoaB n = s := by simpa only [Bool.not_eq_false', decide_eq_true_eq] using he
      have hc : numN l = some n := numN_some.2 ⟨by omega, by rw [← itoa_nat, hl, ← he']; rfl⟩
      exact ⟨_, _, by rw [numS, numV, numOk, ← hl, hc]; rfl, end0 rfl⟩
end Go.Proofs.YteffjmaadkkmeaaGreatDoor
set_option maxRecDepth 8000
namespace Go.Proofs.YteffjmaadkkmeaaGreatDoor
open Go Go.Dv
open Go.Vc (D shrI xorI andI and255)
def okTok (t : Tok) : Bool := if t.kind = 1 then (decide (¬ key t.text = 0) && decide (foldB t.text = t.text)) else if t.kind = 2 then decide (1 ≤ t.text.size ∧ t.text.size ≤ 20) else if t.kind = 3 then numOk t.text else if t.kind = 4 then decide (t.text.size ≤ 40) else if t.kind = 5 then signB t.text else false
theorem TokenOk_d (t : Tok) (hs : t.text.size ≤ 1048576) : Cl Tryz.prog 181 [.ag (csOf t.row)] [] fun r _ => r = vb (okTok t) := by
 rw [Tok.row]
 refine cl_of_d follows_mixed false Tryz.func181 rfl (by kernel_rfl) ?_
 simp only [Tryz.f181, tt, seval]
 refine And.intro (fun h1 => ?_) (fun h1 => ?_)
 ·skip
  refine dDrawn.intro [] (pln [0, 2, 5, 6, 8, 10, 12, 16, 18, 15, 20, 22, 24]) (by kernel_rfl) ?_
  simp only [tt, seval]
  refine call0 (KeyOf_d t.text hs) ?_ ?_ ?_
  ·decide
  ·simp only [tt, seval, Tok.row]
  rintro r rfl
  simp only [tt, seval, Tok.row]
  have hk := key_ge t.text
  have hgt : decide ((0 : Int) < key t.text) = decide (¬ key t.text = 0) := by rw [decide_eq_decide]; omega
  by_cases hz : key t.text = 0
  ·simp only [tt, seval, hgt, decide_eq_true hz, decide_eq_false (not_not_intro hz)]
   exact ⟨_, _, vbE (by rw [okTok, if_pos h1, decide_eq_false (not_not_intro hz)]; rfl), end0 rfl⟩
  ·simp only [tt, seval, hgt, decide_eq_false hz, decide_eq_true hz]
   refine call0 (Fold_d t.text hs) ?_ ?_ ?_
   ·decide
   ·simp only [tt, seval, Tok.row]
   rintro r rfl
   simp only [tt, seval, Tok.row]
   exact ⟨_, _, vbE (by rw [okTok, if_pos h1, decide_eq_true hz]; rfl), end0 rfl⟩
 ·try simp only [tt, seval]
  refine And.intro (fun h2 => ?_) (fun h2 => ?_)
  ·skip
   refine call0 (NameOk_d t.text) ?_ ?_ ?_
   ·decide
   ·simp only [tt, seval, Tok.row]
   rintro r rfl
   simp only [tt, seval, Tok.row]
   exact ⟨_, _, vbE (by rw [okTok, if_neg h1, if_pos h2]), end0 rfl⟩
  ·try simp only [tt, seval]
   refine And.intro (fun h3 => ?_) (fun h3 => ?_)
   ·skip
    refine call0 (Number_d t.text hs) ?_ ?_ ?_
    ·decide
    ·simp only [tt, seval, Tok.row, numS]
    rintro r rfl
    simp only [tt, seval, Tok.row, numS]
    exact ⟨_, _, vbE (by rw [okTok, if_neg h1, if_neg h2, if_pos h3]), end0 rfl⟩
   ·try simp only [tt, seval]
    refine And.intro (fun h4 => ?_) (fun h4 => ?_)
    ·try simp only [tt, seval]
     refine fun _ => ?_
     exact ⟨_, _, vbE (by rw [okTok, if_neg h1, if_neg h2, if_neg h3, if_pos h4]; simp only [decide_eq_decide]; omega), end0 rfl⟩
    ·try simp only [tt, seval]
     refine And.intro (fun h5 => ?_) (fun h5 => ?_)
     ·skip
      refine call0 (SignOk_d t.text) ?_ ?_ ?_
      ·decide
      ·simp only [tt, seval, Tok.row]
      rintro r rfl
      simp only [tt, seval, Tok.row]
      exact ⟨_, _, vbE (by rw [okTok, if_neg h1, if_neg h2, if_neg h3, if_neg h4, if_pos h5]), end0 rfl⟩
     ·exact ⟨_, _, vbE (by rw [okTok, if_neg h1, if_neg h2, if_neg h3, if_neg h4, if_neg h5]), end0 rfl⟩
theorem iTokenOk_d (t : Tok) (hs : t.text.size ≤ 1048576) : Cl Tryz.prog 225 [.ag (csOf t.row)] [] fun r _ => r = vb (okTok t) := by
 rw [Tok.row]
 refine cl_of_d follows_mixed false Tryz.func225 rfl (by kernel_rfl) ?_
 simp only [Tryz.f225, tt, seval]
 refine And.intro (fun h1 => ?_) (fun h1 => ?_)
 ·skip
  refine dDrawn.intro [] (pln [0, 2, 5, 6, 8, 10, 12, 16, 18, 15, 20, 22, 24]) (by kernel_rfl) ?_
  simp only [tt, seval]
  refine call0 (iKeyOf_d t.text hs) ?_ ?_ ?_
  ·decide
  ·simp only [tt, seval, Tok.row]
  rintro r rfl
  simp only [tt, seval, Tok.row]
  have hk := key_ge t.text
  have hgt : True := trivial
  by_cases hz : key t.text = 0
  ·simp only [tt, seval, hgt, decide_eq_true hz, decide_eq_false (not_not_intro hz)]
   exact ⟨_, _, vbE (by rw [okTok, if_pos h1, decide_eq_false (not_not_intro hz)]; rfl), end0 rfl⟩
  ·simp only [tt, seval, hgt, decide_eq_false hz, decide_eq_true hz]
   refine call0 (iFold_d t.text hs) ?_ ?_ ?_
   ·decide
   ·simp only [tt, seval, Tok.row]
   rintro r rfl
   simp only [tt, seval, Tok.row]
   exact ⟨_, _, vbE (by rw [okTok, if_pos h1, decide_eq_true hz]; rfl), end0 rfl⟩
 ·try simp only [tt, seval]
  refine And.intro (fun h2 => ?_) (fun h2 => ?_)
  ·skip
   refine call0 (iNameOk_d t.text) ?_ ?_ ?_
   ·decide
   ·simp only [tt, seval, Tok.row]
   rintro r rfl
   simp only [tt, seval, Tok.row]
   exact ⟨_, _, vbE (by rw [okTok, if_neg h1, if_pos h2]), end0 rfl⟩
  ·try simp only [tt, seval]
   refine And.intro (fun h3 => ?_) (fun h3 => ?_)
   ·skip
    refine call0 (iNumber_d t.text hs) ?_ ?_ ?_
    ·decide
    ·simp only [tt, seval, Tok.row, numS]
    rintro r rfl
    simp only [tt, seval, Tok.row, numS]
    exact ⟨_, _, vbE (by rw [okTok, if_neg h1, if_neg h2, if_pos h3]), end0 rfl⟩
   ·try simp only [tt, seval]
    refine And.intro (fun h4 => ?_) (fun h4 => ?_)
    ·try simp only [tt, seval]
     refine fun _ => ?_
     exact ⟨_, _, vbE (by rw [okTok, if_neg h1, if_neg h2, if_neg h3, if_pos h4]; simp only [decide_eq_decide]; omega), end0 rfl⟩
    ·try simp only [tt, seval]
     refine And.intro (fun h5 => ?_) (fun h5 => ?_)
     ·skip
      refine call0 (iSignOk_d t.text) ?_ ?_ ?_
      ·decide
      ·simp only [tt, seval, Tok.row]
      rintro r rfl
      simp only [tt, seval, Tok.row]
      exact ⟨_, _, vbE (by rw [okTok, if_neg h1, if_neg h2, if_neg h3, if_neg h4, if_pos h5]), end0 rfl⟩
     ·exact ⟨_, _, vbE (by rw [okTok, if_neg h1, if_neg h2, if_neg h3, if_neg h4, if_neg h5]), end0 rfl⟩
def Expr.kind : Expr → Int | .mk k _ _ _ _ _ _ _ => k
def Expr.op : Expr → Int | .mk _ o _ _ _ _ _ _ => o
def bl (op : Int) : Int := if op = 1 then 1 else if op = 2 then 2 else if 3 ≤ op ∧ op ≤ 8 then 4 else if op = 9 then 5 else if op = 10 ∨ op = 11 then 6 else if 12 ≤ op ∧ op ≤ 14 then 7 else 0
def lv (k op : Int) : Int := if k = 4 then bl op else if k = 3 then (if op = 15 then 3 else if op = 16 then 8 else 0) else if 5 ≤ k ∧ k ≤ 8 then 4 else if k = 1 ∨ k = 2 ∨ k = 9 then 9 else 0
def lvE (e : Expr) : Int := lv e.kind e.op
def lvT : List Int := [0, 1, 2, 4, 4, 4, 4, 4, 4, 5, 6, 6, 7, 7, 7]
theorem lvT_row : ([.lit (.int .i64 0), .lit (.int .i64 1), .lit (.int .i64 2), .lit (.int .i64 4), .lit (.int .i64 4), .lit (.int .i64 4), .lit (.int .i64 4), .lit (.int .i64 4), .lit (.int .i64 4), .lit (.int .i64 5), .lit (.int .i64 6), .lit (.int .i64 6), .lit (.int .i64 7), .lit (.int .i64 7), .lit (.int .i64 7)] : List D) = lvT.flatMap irow := rfl
theorem irow_len (n : Int) : (irow n).length = 1 := rfl
theorem irow_tk (v : Int) (r : List D) : takeD 1 (irow v ++ r) = some (irow v) := takeD_row rfl
theorem lvT_get : ∀ n : Fin 15, 1 ≤ n.1 → lvT[n.1]'n.2 = bl n.1 := by decide
theorem LevelOf_d (e : Expr) : Cl Tryz.prog 156 [.ag (csOf e.row)] [] fun r _ => r = vi (lvE e) := by
 obtain ⟨kind, op, not, val, qual, name, kids, sub⟩ := e
 rw [Expr.row_mk, lvE, Expr.kind, Expr.op]
 refine cl_of_d follows_mixed false Tryz.func156 rfl (by kernel_rfl) ?_
 simp only [Tryz.f156, tt, seval]
 all_goals repeat' first | (refine And.intro (fun h => ?_) (fun h => ?_) <;> try simp only [tt, seval]) | (intro _; try simp only [tt, seval])
 all_goals first | contradiction | exact ⟨_, _, viE (by unfold lv; (repeat' split) <;> omega), end0 rfl⟩ | skip
 have h4 : kind = 4 := by assumption
 refine call0 (l1In_d op 1 14) ?_ ?_ ?_
 ·decide
 ·simp only [tt, seval]
 rintro r rfl
 simp only [tt, seval]
 refine And.intro (fun hc => ?_) (fun hc => ?_)
 ·have hc : 1 ≤ op ∧ op ≤ 14 := by simpa only [decide_eq_true_eq] using hc
  have hlt : op.toNat < lvT.length := by show _ < 15; omega
  try simp only [tt, seval]
  refine ⟨by omega, by omega, ?_⟩
  rw [lvT_row, drop_row irow_len (List.getElem?_eq_getElem hlt)]
  simp only [tt, seval, irow_tk, irow]
  exact ⟨_, _, viE (by rw [lv, if_pos h4]; exact (lvT_get ⟨op.toNat, hlt⟩ (by show 1 ≤ op.toNat; omega)).trans (congrArg bl (Int.toNat_of_nonneg (show 0 ≤ op by omega)))), end0 rfl⟩
 ·exact ⟨_, _, viE (by rw [lv, if_pos h4]; unfold bl; have : ¬ (1 ≤ op ∧ op ≤ 14) := by simpa only [decide_eq_false_iff_not, decide_eq_true_eq] using hc
                       (repeat' split) <;> omega), end0 rfl⟩
mutual
inductive ERow where
 | mk (l : List Expr)
end
mutual
def ERow.row : ERow → List D
 | .mk l => .sl l.length (l.flatMap Expr.row) :: []
end
theorem ERow.row_mk (l : List Expr) : (ERow.mk l).row = .sl l.length (l.flatMap Expr.row) :: [] := by rw [ERow.row]
theorem ERow.row_len (x : ERow) : x.row.length = 1 := by cases x; simp [ERow.row]
theorem ERow.tk (x : ERow) (r : List D) : takeD 1 (x.row ++ r) = some x.row := takeD_row (ERow.row_len x)
theorem ERow.ne (x : ERow) (r : List D) : x.row ++ r ≠ [] := fun h => by have := congrArg List.length h; simp [ERow.row_len] at this
mutual
inductive Stmt where
 | mk (kind : Int) (query : Query) (table : ByteArray) (rows : List ERow) (cols : List ByteArray) (sets : List Expr) (where_ : List Expr)
end
mutual
def Stmt.row : Stmt → List D
 | .mk kind query table rows cols sets where_ => int kind :: (query.row ++ str table :: .sl rows.length (rows.flatMap ERow.row) :: .sl cols.length (cols.flatMap srow) :: .sl sets.length (sets.flatMap Expr.row) :: .sl where_.length (where_.flatMap Expr.row) :: [])
end
theorem Stmt.row_mk (kind : Int) (query : Query) (table : ByteArray) (rows : List ERow) (cols : List ByteArray) (sets : List Expr) (where_ : List Expr) : (Stmt.mk kind query table rows cols sets where_).row = int kind :: (query.row ++ str table :: .sl rows.length (rows.flatMap ERow.row) :: .sl cols.length (cols.flatMap srow) :: .sl sets.length (sets.flatMap Expr.row) :: .sl where_.length (where_.flatMap Expr.row) :: []) := by rw [Stmt.row]
theorem Stmt.row_len (x : Stmt) : x.row.length = 12 := by cases x; simp [Stmt.row, Query.row_len]
def ERow.l : ERow → List Expr | .mk l => l
theorem erowE (x : ERow) : x.row = [.sl x.l.length (x.l.flatMap Expr.row)] := by obtain ⟨l⟩ := x; rw [ERow.row_mk]; rfl
theorem eqERow_d (x : ERow) : Cl Tryz.prog 45 [.c (.sl (x).l.length ((x).l.flatMap Expr.row) none), .c (.sl (x).l.length ((x).l.flatMap Expr.row) none)] [] fun r _ => r = vb true := eqExprs_d x.l
theorem eqERows_step (a : List ERow) (hx : ∀ x ∈ a, Cl Tryz.prog 45 [.c (.sl (x).l.length ((x).l.flatMap Expr.row) none), .c (.sl (x).l.length ((x).l.flatMap Expr.row) none)] [] fun r _ => r = vb true) : Cl Tryz.prog 66 [.c (.sl a.length (a.flatMap ERow.row) none), .c (.sl a.length (a.flatMap ERow.row) none)] [] fun r _ => r = vb true := by
 refine cl_of_d follows_mixed false Tryz.func66 rfl (by kernel_rfl) ?_
 simp only [Tryz.f66, tt, seval]
 refine fun _ _ => ?_
 refine dLoop.intro (fun f L p => ∃ i : Nat, f 5 = vi i ∧ i ≤ a.length ∧ L = [] ∧ p = none) (fun f _ _ => (a.length - ixS (f 5)).toNat) [] none ⟨SubO.nil _, PoSub.none _, ?_⟩ ?_
 ·simp only [tt, seval]
  exact ⟨0, rfl, by omega⟩
 ·rintro g L p ⟨i, h5, hi, rfl, rfl⟩
  simp only [tt, seval] at h5
  simp only [tt, seval, h5, Int.ofNat_lt]
  refine fun _ => And.intro (fun hlt => ?_) (fun hge => ?_)
  ·have hlt : i < a.length := by omega
   refine dDrawn.intro [] (pln [0, 2, 4, 6, 8, 10, 12, 14, 17, 18]) (by kernel_rfl) ?_
   simp only [tt, seval]
   simp only [tt, seval, h5]
   refine ⟨by omega, by omega, _, drop_row ERow.row_len (List.getElem?_eq_getElem hlt), ERow.ne _ _, ?_⟩
   simp only [tt, seval, h5, ERow.tk, ERow.row_len, erowE]
   refine ⟨by omega, by omega, _, drop_row ERow.row_len (List.getElem?_eq_getElem hlt), ERow.ne _ _, ?_⟩
   simp only [tt, seval, h5, ERow.tk, ERow.row_len, erowE]
   refine call0 (hx a[i] (List.getElem_mem hlt)) ?_ ?_ ?_
   ·decide
   ·simp only [tt, seval]
   rintro r rfl
   simp only [tt, seval, h5]
   rw [wrS i (by omega)]
   exact ⟨[], none, SubO.nil _, PoSub.none _, ⟨i + 1, rfl, by omega, rfl, rfl⟩, by simp only [ixS]; omega⟩
  ·exact ⟨_, _, rfl, end0 rfl⟩
theorem eqERows_d (a : List ERow) : Cl Tryz.prog 66 [.c (.sl a.length (a.flatMap ERow.row) none), .c (.sl a.length (a.flatMap ERow.row) none)] [] fun r _ => r = vb true := eqERows_step a fun x _ => eqERow_d x
theorem eqtexts_d (a : List ByteArray) : Cl Tryz.prog 67 [.c (.sl a.length (a.flatMap srow) none), .c (.sl a.length (a.flatMap srow) none)] [] fun r _ => r = vb true := by
 refine cl_of_d follows_mixed false Tryz.func67 rfl (by kernel_rfl) ?_
 simp only [Tryz.f67, tt, seval]
 refine fun _ _ => ?_
 refine dLoop.intro (fun f L p => ∃ i : Nat, f 5 = vi i ∧ i ≤ a.length ∧ L = [] ∧ p = none) (fun f _ _ => (a.length - ixS (f 5)).toNat) [] none ⟨SubO.nil _, PoSub.none _, ?_⟩ ?_
 ·simp only [tt, seval]
  exact ⟨0, rfl, by omega⟩
 ·rintro g L p ⟨i, h5, hi, rfl, rfl⟩
  simp only [tt, seval] at h5
  simp only [tt, seval, h5, Int.ofNat_lt]
  refine fun _ => And.intro (fun hlt => ?_) (fun hge => ?_)
  ·have hlt : i < a.length := by omega
   refine dDrawn.intro [] (pln [0, 2, 4, 6, 8, 10, 12, 14, 16]) (by kernel_rfl) ?_
   simp only [tt, seval]
   simp only [tt, seval, h5]
   refine ⟨by omega, by omega, _, drop_row srow_len (List.getElem?_eq_getElem hlt), srow_ne _ _, ?_⟩
   simp only [tt, seval, h5, srow_tk, srow]
   refine ⟨by omega, by omega, _, drop_row srow_len (List.getElem?_eq_getElem hlt), srow_ne _ _, ?_⟩
   simp only [tt, seval, h5, srow_tk, srow]
   try rw [wrS i (by omega)]
   exact ⟨[], none, SubO.nil _, PoSub.none _, ⟨i + 1, rfl, by omega, rfl, rfl⟩, by simp only [ixS]; omega⟩
  ·exact ⟨_, _, rfl, end0 rfl⟩
theorem eqStmt_step (kind : Int) (query : Query) (table : ByteArray) (rows : List ERow) (cols : List ByteArray) (sets : List Expr) (where_ : List Expr)  : Cl Tryz.prog 26 [.ag (csOf (Stmt.mk kind query table rows cols sets where_).row), .ag (csOf (Stmt.mk kind query table rows cols sets where_).row)] [] fun r _ => r = vb true := by
 rw [Stmt.row_mk]
 obtain ⟨query_distinct, query_items, query_from_, query_where_, query_order, query_limit⟩ := query
 simp only [Query.row_mk, List.cons_append, List.nil_append]
 refine cl_of_d follows_mixed false Tryz.func26 rfl (by kernel_rfl) ?_
 simp only [Tryz.f26, tt, seval]
 refine call0 (eqQuery_d (Query.mk query_distinct query_items query_from_ query_where_ query_order query_limit)) ?_ ?_ ?_
 ·decide
 ·simp only [tt, seval, Val.row, List.cons_append, List.nil_append, Query.row_mk]
 rintro r rfl
 simp only [tt, seval, Val.row, List.cons_append, List.nil_append, Query.row_mk]
 refine call0 (eqERows_d rows) ?_ ?_ ?_
 ·decide
 ·simp only [tt, seval, Val.row, List.cons_append, List.nil_append, Query.row_mk]
 rintro r rfl
 simp only [tt, seval, Val.row, List.cons_append, List.nil_append, Query.row_mk]
 refine call0 (eqtexts_d cols) ?_ ?_ ?_
 ·decide
 ·simp only [tt, seval, Val.row, List.cons_append, List.nil_append, Query.row_mk]
 rintro r rfl
 simp only [tt, seval, Val.row, List.cons_append, List.nil_append, Query.row_mk]
 refine call0 (eqExprs_d sets) ?_ ?_ ?_
 ·decide
 ·simp only [tt, seval, Val.row, List.cons_append, List.nil_append, Query.row_mk]
 rintro r rfl
 simp only [tt, seval, Val.row, List.cons_append, List.nil_append, Query.row_mk]
 refine call0 (eqExprs_d where_) ?_ ?_ ?_
 ·decide
 ·simp only [tt, seval, Val.row, List.cons_append, List.nil_append, Query.row_mk]
 rintro r rfl
 simp only [tt, seval, Val.row, List.cons_append, List.nil_append, Query.row_mk]
 exact ⟨_, _, rfl, end0 rfl⟩
structure PS where
 a : Nat
 b : Bool
abbrev PM (α : Type) := PS → Option (α × PS)
section
variable (L : List Tok)
def tkAt (s : PS) (k : Nat) : Option Tok := if s.b = true then none else L[s.a + k]?
def isT (s : PS) (k : Nat) (kind : Int) (text : ByteArray) : Bool := match tkAt L s k with
 | some t => decide (t.kind = kind) && decide (t.text = text)
 | none => false
def isK (s : PS) (kind : Int) : Bool := match tkAt L s 0 with
 | some t => decide (t.kind = kind) && okTok t
 | none => false
def textAt (s : PS) : ByteArray := match tkAt L s 0 with
 | some t => t.text
 | none => ⟨#[]⟩
def adv (s : PS) : PS := ⟨s.a + 1, s.b⟩
def fl (s : PS) : PS := ⟨s.a, true⟩
def tkIf (c : Bool) (s : PS) : PS := if c = true then adv s else s
def must (c : Bool) (s : PS) : PS := if c = true then adv s else fl s
def isKey (s : PS) (k : Nat) : Bool := isT L s 0 1 (kw k)
def isSg (s : PS) (c : UInt8) : Bool := isT L s 0 5 ⟨#[c]⟩
def mText (kind : Int) (s : PS) : ByteArray × PS := if isK L s kind = true then (textAt L s, adv s) else (⟨#[]⟩, fl s)
def mNum (s : PS) : Int × PS := (numV (mText L 3 s).1, (mText L 3 s).2)
def opsL (lv : Nat) : List Nat := if lv = 1 then [1] else if lv = 2 then [2] else if lv = 4 then [3, 4, 5, 6, 7, 8] else if lv = 5 then [9] else if lv = 6 then [10, 11] else if lv = 7 then [12, 13, 14] else []
def opHit (s : PS) (op : Nat) : Bool := isT L s 0 (if op = 1 ∨ op = 2 then 1 else 5) (opT op)
def opIn (s : PS) : List Nat → Nat
 | [] => 0
 | op :: r => if opHit L s op = true then op else opIn s r
def opAt (s : PS) (lv : Nat) : Nat := opIn L s (opsL lv)
end
def z0 : ByteArray := ⟨#[]⟩
def zVal : Val := ⟨0, 0, ⟨#[]⟩⟩
def zExpr : Expr := .mk 0 0 false zVal z0 z0 [] []
def mBin (op : Nat) (a b : Expr) : Expr := .mk 4 op false zVal z0 z0 [a, b] []
def mUn (op : Int) (e : Expr) : Expr := .mk 3 op false zVal z0 z0 [e] []
def mKids (kind : Int) (not : Bool) (kids : List Expr) (sub : List Query) : Expr := .mk kind 0 not zVal z0 z0 kids sub
def mLit (v : Val) : Expr := .mk 1 0 false v z0 z0 [] []
def mCol (qual name : ByteArray) : Expr := .mk 2 0 false zVal qual name [] []
section
variable (L : List Tok)
def chainM (f : PM Expr) (lv : Nat) : Nat → Expr → PM Expr
 | 0, _, _ => none
 | n + 1, e, s => if opAt L s lv = 0 then some (e, s) else match f (adv s) with
  | none => none
  | some (x, s1) => chainM f lv n (mBin (opAt L s lv) e x) s1
def sepM {α : Type} (f : PM α) : Nat → List α → PM (List α)
 | 0, _, _ => none
 | n + 1, l, s => if isSg L s 44 = true then (match f (adv s) with
  | none => none
  | some (x, s1) => sepM f n (l ++ [x]) s1) else some (l, s)
def orsM (f : Nat → PM Expr) : PM (List Expr) := fun s => match f 1 s with
 | none => none
 | some (e, s1) => sepM L (f 1) (L.length + 1) [e] s1
def inM (f : Nat → PM Expr) (q : PM Query) (e : Expr) (not : Bool) : PM Expr := fun s =>
 let s1 := must (isSg L s 40) s
 if isKey L s1 1 = true then (match q s1 with
  | none => none
  | some (x, s2) => some (mKids 8 not [e] [x], must (isSg L s2 41) s2))
 else match orsM L f s1 with
  | none => none
  | some (l, s2) => some (mKids 7 not (e :: l) [], must (isSg L s2 41) s2)
def cmpT (f : Nat → PM Expr) (q : PM Query) (e : Expr) : PM Expr := fun s =>
 if isKey L s 16 = true then
  let s1 := adv s
  let n := isKey L s1 15
  let s2 := tkIf n s1
  some (mKids 5 n [e] [], must (isKey L s2 20) s2)
 else
  let n := isKey L s 15
  let s1 := tkIf n s
  if isKey L s1 18 = true then (match f 5 (adv s1) with
   | none => none
   | some (lo, s2) => match f 5 (must (isKey L s2 13) s2) with
    | none => none
    | some (hi, s3) => some (mKids 6 n [e, lo, hi] [], s3))
  else if isKey L s1 17 = true then inM L f q e n (adv s1)
  else some (e, ⟨s1.a, s1.b || n⟩)
def cmpM (f : Nat → PM Expr) (q : PM Query) : PM Expr := fun s => match f 5 s with
 | none => none
 | some (e, s1) => if opAt L s1 4 = 0 then cmpT L f q e s1 else match f 5 (adv s1) with
  | none => none
  | some (x, s2) => some (mBin (opAt L s1 4) e x, s2)
def primM (f : Nat → PM Expr) (q : PM Query) : PM Expr := fun s =>
 if isK L s 3 = true then some (mLit ⟨1, numV (textAt L s), z0⟩, adv s)
 else if isK L s 4 = true then some (mLit ⟨2, 0, textAt L s⟩, adv s)
 else if isKey L s 20 = true then some (mLit zVal, adv s)
 else if isKey L s 21 = true then some (mLit ⟨3, 1, z0⟩, adv s)
 else if isKey L s 22 = true then some (mLit ⟨3, 0, z0⟩, adv s)
 else if isK L s 2 = true then
  let s1 := adv s
  if isSg L s1 46 = true then some (mCol (textAt L s) (mText L 2 (adv s1)).1, (mText L 2 (adv s1)).2)
  else some (mCol z0 (textAt L s), s1)
 else if isSg L s 40 = true then (match f 1 (adv s) with
  | none => none
  | some (e, s1) => some (e, must (isSg L s1 41) s1))
 else if isKey L s 19 = true then
  let s1 := must (isSg L (adv s) 40) (adv s)
  (match q s1 with
  | none => none
  | some (x, s2) => some (mKids 9 false [] [x], must (isSg L s2 41) s2))
 else some (zExpr, fl s)
def stepE (f : Nat → PM Expr) (q : PM Query) (lv : Nat) : PM Expr := fun s =>
 if lv = 3 then (if isKey L s 15 = true then (match f 3 (adv s) with
  | none => none
  | some (e, s1) => some (mUn 15 e, s1)) else f 4 s)
 else if lv = 4 then cmpM L f q s
 else if lv = 8 then (if isSg L s 45 = true then (match f 8 (adv s) with
  | none => none
  | some (e, s1) => some (mUn 16 e, s1)) else f 9 s)
 else if lv = 9 then primM L f q s
 else match f (lv + 1) s with
  | none => none
  | some (e, s1) => chainM L (f (lv + 1)) lv (L.length + 1) e s1
def asM : PS → ByteArray × PS := fun s => if isKey L s 12 = true then mText L 2 (adv s) else (z0, s)
def starN (s : PS) : Bool := isK L s 2 && (isT L s 1 5 ⟨#[46]⟩ && isT L s 2 5 ⟨#[42]⟩)
def itemM (f : Nat → PM Expr) : PM Item := fun s =>
 if isSg L s 42 = true then some (.mk true z0 zExpr z0, adv s)
 else if starN L s = true then some (.mk true (textAt L s) zExpr z0, adv (adv (adv s)))
 else match f 1 s with
  | none => none
  | some (e, s1) => some (.mk false z0 e (asM L s1).1, (asM L s1).2)
def sourceM (s : PS) : Source × PS := (.mk (mText L 2 s).1 (asM L (mText L 2 s).2).1 [], (asM L (mText L 2 s).2).2)
def Source.withOn : Source → List Expr → Source | .mk t a _, on => .mk t a on
def sourcesM (f : Nat → PM Expr) : Nat → List Source → PM (List Source)
 | 0, _, _ => none
 | n + 1, l, s =>
  if isSg L s 44 = true then sourcesM f n (l ++ [(sourceM L (adv s)).1]) (sourceM L (adv s)).2
  else if isKey L s 4 = true then
   let s2 := (sourceM L (adv s)).2
   (match f 1 (must (isKey L s2 5) s2) with
   | none => none
   | some (e, s3) => sourcesM f n (l ++ [(sourceM L (adv s)).1.withOn [e]]) s3)
  else some (l, s)
def whereM (f : Nat → PM Expr) : PM (List Expr) := fun s => if isKey L s 6 = true then (match f 1 (adv s) with
 | none => none
 | some (e, s1) => some ([e], s1)) else some ([], s)
def sortM (f : Nat → PM Expr) : PM SortKey := fun s => match f 1 s with
 | none => none
 | some (e, s1) => if isKey L s1 9 = true then some (.mk e false, adv s1) else some (.mk e (isKey L s1 10), tkIf (isKey L s1 10) s1)
def orderM (f : Nat → PM Expr) : PM (List SortKey) := fun s => if isKey L s 7 = true then
 let s1 := must (isKey L (adv s) 8) (adv s)
 (match sortM L f s1 with
 | none => none
 | some (x, s2) => sepM L (sortM L f) (L.length + 1) [x] s2) else some ([], s)
def limitM (s : PS) : Int × PS := if isKey L s 11 = true then mNum L (adv s) else (-1, s)
def itemsM (f : Nat → PM Expr) : PM (List Item) := fun s => match itemM L f s with
 | none => none
 | some (x, s1) => sepM L (itemM L f) (L.length + 1) [x] s1
def stepQ (f : Nat → PM Expr) : PM Query := fun s =>
 let s1 := must (isKey L s 1) s
 let d := isKey L s1 2
 match itemsM L f (tkIf d s1) with
 | none => none
 | some (its, s2) =>
  let s3 := must (isKey L s2 3) s2
  match sourcesM L f (L.length + 1) [(sourceM L s3).1] (sourceM L s3).2 with
  | none => none
  | some (frs, s4) => match whereM L f s4 with
   | none => none
   | some (wh, s5) => match orderM L f s5 with
    | none => none
    | some (ord, s6) => some (.mk d its frs wh ord (limitM L s6).1, (limitM L s6).2)
def pP : Nat → (Nat → PM Expr) × PM Query
 | 0 => (fun _ _ => none, fun _ => none)
 | k + 1 => (stepE L (pP k).1 (pP k).2, stepQ L (pP k).1)
end
section
variable (L : List Tok)
def Ok (s s' : PS) : Prop := s.a ≤ s'.a ∧ (s.a ≤ L.length → s'.a ≤ L.length) ∧ (s.b = true → s' = s)
theorem Ok.refl (s : PS) : Ok L s s := ⟨Nat.le_refl _, id, fun _ => rfl⟩
variable {L}
theorem Ok.trans {a b c : PS} (h : Ok L a b) (k : Ok L b c) : Ok L a c := ⟨Nat.le_trans h.1 k.1, fun e => k.2.1 (h.2.1 e), fun e => by have := h.2.2 e; subst this; exact k.2.2 e⟩
theorem tkAt_lt {s : PS} {k : Nat} {t : Tok} (h : tkAt L s k = some t) : s.b = false ∧ s.a + k < L.length := by
 unfold tkAt at h
 split at h
 ·cases h
 ·rename_i hb
  exact ⟨by simpa using hb, (List.getElem?_eq_some_iff.1 h).1⟩
theorem isT_lt {s : PS} {k : Nat} {kind : Int} {x : ByteArray} (h : isT L s k kind x = true) : s.b = false ∧ s.a + k < L.length := by
 unfold isT at h
 split at h
 ·rename_i t ht; exact tkAt_lt ht
 ·cases h
theorem isK_lt {s : PS} {kind : Int} (h : isK L s kind = true) : s.b = false ∧ s.a < L.length := by
 unfold isK at h
 split at h
 ·rename_i t ht; exact tkAt_lt ht
 ·cases h
theorem isKey_lt {s : PS} {k : Nat} (h : isKey L s k = true) : s.b = false ∧ s.a < L.length := isT_lt h
theorem isSg_lt {s : PS} {c : UInt8} (h : isSg L s c = true) : s.b = false ∧ s.a < L.length := isT_lt h
theorem opIn_lt {s : PS} : ∀ {l : List Nat}, opIn L s l ≠ 0 → s.b = false ∧ s.a < L.length
 | [], h => absurd rfl h
 | op :: r, h => by
  unfold opIn at h
  split at h
  ·rename_i hh; exact isT_lt hh
  ·exact opIn_lt h
theorem opAt_lt {s : PS} {lv : Nat} (h : ¬ opAt L s lv = 0) : s.b = false ∧ s.a < L.length := opIn_lt h
theorem Ok.adv {s : PS} (h : s.b = false ∧ s.a < L.length) : Ok L s (adv s) := ⟨by simp [Go.Proofs.YteffjmaadkkmeaaGreatDoor.adv], fun _ => by simp [Go.Proofs.YteffjmaadkkmeaaGreatDoor.adv]; omega, fun e => by rw [h.1] at e; cases e⟩
theorem Ok.fl (s : PS) : Ok L s (fl s) := ⟨Nat.le_refl _, id, fun e => by cases s; simp only at e; subst e; rfl⟩
theorem Ok.must {s : PS} {c : Bool} (h : c = true → s.b = false ∧ s.a < L.length) : Ok L s (must c s) := by
 unfold Go.Proofs.YteffjmaadkkmeaaGreatDoor.must
 split
 ·rename_i hc; exact Ok.adv (h hc)
 ·exact Ok.fl s
theorem Ok.tkIf {s : PS} {c : Bool} (h : c = true → s.b = false ∧ s.a < L.length) : Ok L s (tkIf c s) := by
 unfold Go.Proofs.YteffjmaadkkmeaaGreatDoor.tkIf
 split
 ·rename_i hc; exact Ok.adv (h hc)
 ·exact Ok.refl L s
theorem Ok.mText (kind : Int) (s : PS) : Ok L s (mText L kind s).2 := by
 unfold Go.Proofs.YteffjmaadkkmeaaGreatDoor.mText
 split
 ·rename_i hc; exact Ok.adv (isK_lt hc)
 ·exact Ok.fl s
theorem Ok.mNum (s : PS) : Ok L s (mNum L s).2 := Ok.mText 3 s
theorem Ok.asM (s : PS) : Ok L s (asM L s).2 := by
 unfold Go.Proofs.YteffjmaadkkmeaaGreatDoor.asM
 split
 ·rename_i hc; exact (Ok.adv (isKey_lt hc)).trans (Ok.mText 2 _)
 ·exact Ok.refl L s
theorem Ok.sourceM (s : PS) : Ok L s (sourceM L s).2 := (Ok.mText 2 s).trans (Ok.asM _)
theorem Ok.limitM (s : PS) : Ok L s (limitM L s).2 := by
 unfold Go.Proofs.YteffjmaadkkmeaaGreatDoor.limitM
 split
 ·rename_i hc; exact (Ok.adv (isKey_lt hc)).trans (Ok.mNum _)
 ·exact Ok.refl L s
def OkM {α : Type} (m : PM α) : Prop := ∀ s x s', m s = some (x, s') → Ok L s s'
variable {f : Nat → PM Expr} {q : PM Query}
theorem OkM.chain {g : PM Expr} (hg : OkM (L := L) g) (lv : Nat) : ∀ (n : Nat) (e : Expr), OkM (L := L) (chainM L g lv n e)
 | 0, _, _, _, _, h => by cases h
 | n + 1, e, s, x, s', h => by
  rw [chainM] at h
  split at h
  ·injection h with h; injection h with _ h; subst h; exact Ok.refl L s
  ·rename_i ho
   split at h
   ·cases h
   ·rename_i y s1 h1
    exact (Ok.adv (opAt_lt ho)).trans ((hg _ _ _ h1).trans (OkM.chain hg lv n _ _ _ _ h))
theorem OkM.sep {α : Type} {g : PM α} (hg : OkM (L := L) g) : ∀ (n : Nat) (l : List α), OkM (L := L) (sepM L g n l)
 | 0, _, _, _, _, h => by cases h
 | n + 1, l, s, x, s', h => by
  rw [sepM] at h
  split at h
  ·rename_i hc
   split at h
   ·cases h
   ·rename_i y s1 h1
    exact (Ok.adv (isSg_lt hc)).trans ((hg _ _ _ h1).trans (OkM.sep hg n _ _ _ _ h))
  ·injection h with h; injection h with _ h; subst h; exact Ok.refl L s
theorem OkM.ors (hf : ∀ lv, OkM (L := L) (f lv)) : OkM (L := L) (orsM L f) := fun s x s' h => by
 unfold orsM at h
 split at h
 ·cases h
 ·rename_i y s1 h1
  exact (hf 1 _ _ _ h1).trans (OkM.sep (hf 1) _ _ _ _ _ h)
theorem OkM.inn (hf : ∀ lv, OkM (L := L) (f lv)) (hq : OkM (L := L) q) (e : Expr) (n : Bool) : OkM (L := L) (inM L f q e n) := fun s x s' h => by
 unfold inM at h
 have h0 : Ok L s (must (isSg L s 40) s) := Ok.must fun h => isSg_lt h
 simp only at h
 split at h
 ·split at h
  ·cases h
  ·rename_i y s1 h1
   injection h with h; injection h with _ h; subst h
   exact h0.trans ((hq _ _ _ h1).trans (Ok.must fun h => isSg_lt h))
 ·split at h
  ·cases h
  ·rename_i y s1 h1
   injection h with h; injection h with _ h; subst h
   exact h0.trans ((OkM.ors hf _ _ _ h1).trans (Ok.must fun h => isSg_lt h))
theorem OkM.cmpT (hf : ∀ lv, OkM (L := L) (f lv)) (hq : OkM (L := L) q) (e : Expr) : OkM (L := L) (cmpT L f q e) := fun s x s' h => by
 unfold Go.Proofs.YteffjmaadkkmeaaGreatDoor.cmpT at h
 simp only at h
 split at h
 ·rename_i hc
  injection h with h; injection h with _ h; subst h
  exact (Ok.adv (isKey_lt hc)).trans ((Ok.tkIf fun h => isKey_lt h).trans (Ok.must fun h => isKey_lt h))
 ·have h0 : Ok L s (tkIf (isKey L s 15) s) := Ok.tkIf fun h => isKey_lt h
  split at h
  ·rename_i hc
   split at h
   ·cases h
   ·rename_i y s1 h1
    split at h
    ·cases h
    ·rename_i z s2 h2
     injection h with h; injection h with _ h; subst h
     exact h0.trans ((Ok.adv (isKey_lt hc)).trans ((hf 5 _ _ _ h1).trans ((Ok.must fun h => isKey_lt h).trans (hf 5 _ _ _ h2))))
  ·split at h
   ·rename_i hc
    exact h0.trans ((Ok.adv (isKey_lt hc)).trans (OkM.inn hf hq e _ _ _ _ h))
   ·injection h with h; injection h with _ h; subst h
    refine h0.trans ⟨Nat.le_refl _, id, fun e => ?_⟩
    generalize tkIf (isKey L s 15) s = u at *
    cases u; simp only at e; subst e; rfl
theorem OkM.cmp (hf : ∀ lv, OkM (L := L) (f lv)) (hq : OkM (L := L) q) : OkM (L := L) (cmpM L f q) := fun s x s' h => by
 unfold cmpM at h
 split at h
 ·cases h
 ·rename_i y s1 h1
  split at h
  ·exact (hf 5 _ _ _ h1).trans (OkM.cmpT hf hq _ _ _ _ h)
  ·rename_i ho
   split at h
   ·cases h
   ·rename_i z s2 h2
    injection h with h; injection h with _ h; subst h
    exact (hf 5 _ _ _ h1).trans ((Ok.adv (opAt_lt ho)).trans (hf 5 _ _ _ h2))
theorem OkM.prim (hf : ∀ lv, OkM (L := L) (f lv)) (hq : OkM (L := L) q) : OkM (L := L) (primM L f q) := fun s x s' h => by
 unfold primM at h
 simp only at h
 split at h
 ·rename_i hc; injection h with h; injection h with _ h; subst h; exact Ok.adv (isK_lt hc)
 split at h
 ·rename_i hc; injection h with h; injection h with _ h; subst h; exact Ok.adv (isK_lt hc)
 split at h
 ·rename_i hc; injection h with h; injection h with _ h; subst h; exact Ok.adv (isKey_lt hc)
 split at h
 ·rename_i hc; injection h with h; injection h with _ h; subst h; exact Ok.adv (isKey_lt hc)
 split at h
 ·rename_i hc; injection h with h; injection h with _ h; subst h; exact Ok.adv (isKey_lt hc)
 split at h
 ·rename_i hc
  split at h
  ·rename_i hd; injection h with h; injection h with _ h; subst h; exact (Ok.adv (isK_lt hc)).trans ((Ok.adv (isSg_lt hd)).trans (Ok.mText 2 _))
  ·injection h with h; injection h with _ h; subst h; exact Ok.adv (isK_lt hc)
 split at h
 ·rename_i hc
  split at h
  ·cases h
  ·rename_i y s1 h1
   injection h with h; injection h with _ h; subst h
   exact (Ok.adv (isSg_lt hc)).trans ((hf 1 _ _ _ h1).trans (Ok.must fun h => isSg_lt h))
 split at h
 ·rename_i hc
  split at h
  ·cases h
  ·rename_i y s1 h1
   injection h with h; injection h with _ h; subst h
   exact (Ok.adv (isKey_lt hc)).trans ((Ok.must fun h => isSg_lt h).trans ((hq _ _ _ h1).trans (Ok.must fun h => isSg_lt h)))
 ·injection h with h; injection h with _ h; subst h; exact Ok.fl s
theorem OkM.stepE (hf : ∀ lv, OkM (L := L) (f lv)) (hq : OkM (L := L) q) (lv : Nat) : OkM (L := L) (stepE L f q lv) := fun s x s' h => by
 unfold Go.Proofs.YteffjmaadkkmeaaGreatDoor.stepE at h
 split at h
 ·split at h
  ·rename_i hc
   split at h
   ·cases h
   ·rename_i y s1 h1
    injection h with h; injection h with _ h; subst h
    exact (Ok.adv (isKey_lt hc)).trans (hf 3 _ _ _ h1)
  ·exact hf 4 _ _ _ h
 split at h
 ·exact OkM.cmp hf hq _ _ _ h
 split at h
 ·split at h
  ·rename_i hc
   split at h
   ·cases h
   ·rename_i y s1 h1
    injection h with h; injection h with _ h; subst h
    exact (Ok.adv (isSg_lt hc)).trans (hf 8 _ _ _ h1)
  ·exact hf 9 _ _ _ h
 split at h
 ·exact OkM.prim hf hq _ _ _ h
 ·split at h
  ·cases h
  ·rename_i y s1 h1
   exact (hf _ _ _ _ h1).trans (OkM.chain (hf _) lv _ _ _ _ _ h)
theorem starN_lt {s : PS} (h : starN L s = true) : s.b = false ∧ s.a + 2 < L.length := by
 unfold starN at h
 simp only [Bool.and_eq_true] at h
 exact isT_lt h.2.2
theorem OkM.item (hf : ∀ lv, OkM (L := L) (f lv)) : OkM (L := L) (itemM L f) := fun s x s' h => by
 unfold itemM at h
 split at h
 ·rename_i hc; injection h with h; injection h with _ h; subst h; exact Ok.adv (isSg_lt hc)
 split at h
 ·rename_i hc; injection h with h; injection h with _ h; subst h
  have := starN_lt hc
  have a1 : Ok L s (adv s) := Ok.adv ⟨this.1, by omega⟩
  have a2 : Ok L (adv s) (adv (adv s)) := Ok.adv ⟨this.1, show s.a + 1 < _ by omega⟩
  have a3 : Ok L (adv (adv s)) (adv (adv (adv s))) := Ok.adv ⟨this.1, show s.a + 1 + 1 < _ by omega⟩
  exact a1.trans (a2.trans a3)
 split at h
 ·cases h
 ·rename_i y s1 h1
  injection h with h; injection h with _ h; subst h
  exact (hf 1 _ _ _ h1).trans (Ok.asM _)
theorem OkM.sources (hf : ∀ lv, OkM (L := L) (f lv)) : ∀ (n : Nat) (l : List Source), OkM (L := L) (sourcesM L f n l)
 | 0, _, _, _, _, h => by cases h
 | n + 1, l, s, x, s', h => by
  rw [sourcesM] at h
  split at h
  ·rename_i hc
   exact (Ok.adv (isSg_lt hc)).trans ((Ok.sourceM _).trans (OkM.sources hf n _ _ _ _ h))
  simp only at h
  split at h
  ·rename_i hc
   split at h
   ·cases h
   ·rename_i y s1 h1
    exact (Ok.adv (isKey_lt hc)).trans ((Ok.sourceM _).trans ((Ok.must fun h => isKey_lt h).trans ((hf 1 _ _ _ h1).trans (OkM.sources hf n _ _ _ _ h))))
  ·injection h with h; injection h with _ h; subst h; exact Ok.refl L s
theorem OkM.wher (hf : ∀ lv, OkM (L := L) (f lv)) : OkM (L := L) (whereM L f) := fun s x s' h => by
 unfold whereM at h
 split at h
 ·rename_i hc
  split at h
  ·cases h
  ·rename_i y s1 h1
   injection h with h; injection h with _ h; subst h
   exact (Ok.adv (isKey_lt hc)).trans (hf 1 _ _ _ h1)
 ·injection h with h; injection h with _ h; subst h; exact Ok.refl L s
theorem OkM.sort (hf : ∀ lv, OkM (L := L) (f lv)) : OkM (L := L) (sortM L f) := fun s x s' h => by
 unfold sortM at h
 split at h
 ·cases h
 ·rename_i y s1 h1
  split at h
  ·rename_i hc; injection h with h; injection h with _ h; subst h
   exact (hf 1 _ _ _ h1).trans (Ok.adv (isKey_lt hc))
  ·injection h with h; injection h with _ h; subst h
   exact (hf 1 _ _ _ h1).trans (Ok.tkIf fun h => isKey_lt h)
theorem OkM.order (hf : ∀ lv, OkM (L := L) (f lv)) : OkM (L := L) (orderM L f) := fun s x s' h => by
 unfold orderM at h
 simp only at h
 split at h
 ·rename_i hc
  split at h
  ·cases h
  ·rename_i y s1 h1
   exact (Ok.adv (isKey_lt hc)).trans ((Ok.must fun h => isKey_lt h).trans ((OkM.sort hf _ _ _ h1).trans (OkM.sep (OkM.sort hf) _ _ _ _ _ h)))
 ·injection h with h; injection h with _ h; subst h; exact Ok.refl L s
theorem OkM.items (hf : ∀ lv, OkM (L := L) (f lv)) : OkM (L := L) (itemsM L f) := fun s x s' h => by
 unfold itemsM at h
 split at h
 ·cases h
 ·rename_i y s1 h1
  exact (OkM.item hf _ _ _ h1).trans (OkM.sep (OkM.item hf) _ _ _ _ _ h)
theorem OkM.stepQ (hf : ∀ lv, OkM (L := L) (f lv)) : OkM (L := L) (stepQ L f) := fun s x s' h => by
 unfold Go.Proofs.YteffjmaadkkmeaaGreatDoor.stepQ at h
 simp only at h
 split at h
 ·cases h
 rename_i its s2 h1
 split at h
 ·cases h
 rename_i frs s4 h2
 split at h
 ·cases h
 rename_i wh s5 h3
 split at h
 ·cases h
 rename_i od s6 h4
 injection h with h; injection h with _ h; subst h
 exact (Ok.must fun h => isKey_lt h).trans ((Ok.tkIf fun h => isKey_lt h).trans ((OkM.items hf _ _ _ h1).trans ((Ok.must fun h => isKey_lt h).trans ((Ok.sourceM _).trans ((OkM.sources hf _ _ _ _ _ h2).trans ((OkM.wher hf _ _ _ h3).trans ((OkM.order hf _ _ _ h4).trans (Ok.limitM _))))))))
theorem pP_ok : ∀ k, (∀ lv, OkM (L := L) ((pP L k).1 lv)) ∧ OkM (L := L) (pP L k).2
 | 0 => ⟨fun _ _ _ _ h => (by cases h), fun _ _ _ h => (by cases h)⟩
 | k + 1 => ⟨fun lv => OkM.stepE (pP_ok k).1 (pP_ok k).2 lv, OkM.stepQ (pP_ok k).1⟩
end
section
variable {L : List Tok}
abbrev rm (L : List Tok) (s : PS) : Nat := L.length - s.a
def Df {α : Type} (m : PM α) (s : PS) : Prop := ∃ x s', m s = some (x, s')
theorem rm_adv {s : PS} (h : s.b = false ∧ s.a < L.length) : rm L (adv s) < rm L s := by show L.length - (s.a + 1) < L.length - s.a; omega
theorem Ok.rm {s s' : PS} (h : Ok L s s') : rm L s' ≤ rm L s := by have := h.1; show L.length - s'.a ≤ L.length - s.a; omega
variable {f : Nat → PM Expr} {q : PM Query}
theorem chain_df {g : PM Expr} {R lv : Nat} (hk : OkM (L := L) g) (hg : ∀ s, rm L s < R → Df g s) : ∀ (n : Nat) (e : Expr) (s : PS), rm L s ≤ R → rm L s < n → Df (chainM L g lv n e) s
 | 0, _, _, _, h => absurd h (Nat.not_lt_zero _)
 | n + 1, e, s, h, h' => by
  unfold Df
  rw [chainM]
  split
  ·exact ⟨_, _, rfl⟩
  ·rename_i ho
   have ha := rm_adv (opAt_lt ho)
   obtain ⟨x, s1, h1⟩ := hg (adv s) (by omega)
   have := (hk _ _ _ h1).rm
   rw [h1]
   exact chain_df hk hg n _ s1 (by omega) (by omega)
theorem sep_df {α : Type} {g : PM α} {R : Nat} (hk : OkM (L := L) g) (hg : ∀ s, rm L s < R → Df g s) : ∀ (n : Nat) (l : List α) (s : PS), rm L s ≤ R → rm L s < n → Df (sepM L g n l) s
 | 0, _, _, _, h => absurd h (Nat.not_lt_zero _)
 | n + 1, l, s, h, h' => by
  unfold Df
  rw [sepM]
  split
  ·rename_i ho
   have ha := rm_adv (isSg_lt ho)
   obtain ⟨x, s1, h1⟩ := hg (adv s) (by omega)
   have := (hk _ _ _ h1).rm
   rw [h1]
   exact sep_df hk hg n _ s1 (by omega) (by omega)
  ·exact ⟨_, _, rfl⟩
theorem rm_le (s : PS) : rm L s < L.length + 1 := by show L.length - s.a < _; omega
section
variable (hk : ∀ lv, OkM (L := L) (f lv)) (hkq : OkM (L := L) q) {R : Nat} (hf : ∀ lv, 1 ≤ lv → lv ≤ 9 → ∀ s, rm L s < R → Df (f lv) s) (hq : ∀ s, rm L s < R → Df q s)
include hk hf
theorem ors_df {s : PS} (h : rm L s < R) : Df (orsM L f) s := by
 obtain ⟨x, s1, h1⟩ := hf 1 (by omega) (by omega) s h
 have := (hk 1 _ _ _ h1).rm
 unfold Df orsM
 rw [h1]
 exact sep_df (hk 1) (hf 1 (by omega) (by omega)) _ _ s1 (by omega) (rm_le s1)
include hkq hq
theorem in_df {s : PS} (e : Expr) (n : Bool) (h : rm L s < R) : Df (inM L f q e n) s := by
 unfold Df inM
 simp only
 have h0 : Ok L s (must (isSg L s 40) s) := Ok.must fun h => isSg_lt h
 have := h0.rm
 split
 ·obtain ⟨x, s1, h1⟩ := hq (must (isSg L s 40) s) (by omega)
  rw [h1]; exact ⟨_, _, rfl⟩
 ·obtain ⟨x, s1, h1⟩ := ors_df hk hf (s := must (isSg L s 40) s) (by omega)
  rw [h1]; exact ⟨_, _, rfl⟩
theorem cmpT_df {s : PS} (e : Expr) (h : rm L s ≤ R) : Df (cmpT L f q e) s := by
 unfold Df cmpT
 simp only
 split
 ·exact ⟨_, _, rfl⟩
 have h0 : Ok L s (tkIf (isKey L s 15) s) := Ok.tkIf fun h => isKey_lt h
 have h0' := h0.rm
 split
 ·rename_i hc
  have ha := rm_adv (isKey_lt hc)
  obtain ⟨x, s1, h1⟩ := hf 5 (by omega) (by omega) _ (by omega : rm L (adv (tkIf (isKey L s 15) s)) < R)
  have h2 := (hk 5 _ _ _ h1).rm
  rw [h1]
  have h3 : Ok L s1 (must (isKey L s1 13) s1) := Ok.must fun h => isKey_lt h
  have h4 := h3.rm
  obtain ⟨y, s2, h5⟩ := hf 5 (by omega) (by omega) _ (by omega : rm L (must (isKey L s1 13) s1) < R)
  simp only [h5]
  exact ⟨_, _, rfl⟩
 split
 ·rename_i hc
  have ha := rm_adv (isKey_lt hc)
  exact in_df hk hkq hf hq e _ (by omega)
 ·exact ⟨_, _, rfl⟩
theorem prim_df {s : PS} (h : rm L s ≤ R) : Df (primM L f q) s := by
 unfold Df primM
 simp only
 split
 ·exact ⟨_, _, rfl⟩
 split
 ·exact ⟨_, _, rfl⟩
 split
 ·exact ⟨_, _, rfl⟩
 split
 ·exact ⟨_, _, rfl⟩
 split
 ·exact ⟨_, _, rfl⟩
 split
 ·split <;> exact ⟨_, _, rfl⟩
 split
 ·rename_i hc
  have ha := rm_adv (isSg_lt hc)
  obtain ⟨x, s1, h1⟩ := hf 1 (by omega) (by omega) _ (by omega : rm L (adv s) < R)
  rw [h1]; exact ⟨_, _, rfl⟩
 split
 ·rename_i hc
  have ha := rm_adv (isKey_lt hc)
  have h3 : Ok L (adv s) (must (isSg L (adv s) 40) (adv s)) := Ok.must fun h => isSg_lt h
  have h4 := h3.rm
  obtain ⟨x, s1, h1⟩ := hq (must (isSg L (adv s) 40) (adv s)) (by omega)
  rw [h1]; exact ⟨_, _, rfl⟩
 ·exact ⟨_, _, rfl⟩
theorem stepE_df {s : PS} {lv : Nat} (h : rm L s ≤ R) (hlv : lv ≤ 9) (hn : lv ≠ 9 → Df (f (lv + 1)) s) : Df (stepE L f q lv) s := by
 unfold Df stepE
 split
 ·rename_i e; subst e
  split
  ·rename_i hc
   have ha := rm_adv (isKey_lt hc)
   obtain ⟨x, s1, h1⟩ := hf 3 (by omega) (by omega) _ (by omega : rm L (adv s) < R)
   rw [h1]; exact ⟨_, _, rfl⟩
  ·exact hn (by omega)
 split
 ·rename_i e; subst e
  unfold cmpM
  obtain ⟨x, s1, h1⟩ := hn (by omega)
  have h2 := (hk 5 _ _ _ h1).rm
  simp only [h1]
  split
  ·exact cmpT_df hk hkq hf hq _ (by omega)
  ·rename_i ho
   have ha := rm_adv (opAt_lt ho)
   obtain ⟨y, s2, h3⟩ := hf 5 (by omega) (by omega) _ (by omega : rm L (adv s1) < R)
   rw [h3]; exact ⟨_, _, rfl⟩
 split
 ·rename_i e; subst e
  split
  ·rename_i hc
   have ha := rm_adv (isSg_lt hc)
   obtain ⟨x, s1, h1⟩ := hf 8 (by omega) (by omega) _ (by omega : rm L (adv s) < R)
   rw [h1]; exact ⟨_, _, rfl⟩
  ·exact hn (by omega)
 split
 ·exact prim_df hk hkq hf hq h
 ·rename_i e9
  obtain ⟨x, s1, h1⟩ := hn e9
  have h2 := (hk _ _ _ _ h1).rm
  rw [h1]
  exact chain_df (hk _) (fun s' hs' => hf _ (by omega) (by omega) s' hs') _ _ s1 (by omega) (rm_le s1)
end
section
variable (hk : ∀ lv, OkM (L := L) (f lv)) {R : Nat} (hf : ∀ s, rm L s ≤ R → Df (f 1) s)
include hk hf
theorem item_df {s : PS} (h : rm L s ≤ R) : Df (itemM L f) s := by
 unfold Df itemM
 split
 ·exact ⟨_, _, rfl⟩
 split
 ·exact ⟨_, _, rfl⟩
 obtain ⟨x, s1, h1⟩ := hf s h
 rw [h1]; exact ⟨_, _, rfl⟩
theorem sources_df : ∀ (n : Nat) (l : List Source) (s : PS), rm L s ≤ R → rm L s < n → Df (sourcesM L f n l) s
 | 0, _, _, _, h => absurd h (Nat.not_lt_zero _)
 | n + 1, l, s, h, h' => by
  unfold Df
  rw [sourcesM]
  split
  ·rename_i ho
   have ha := rm_adv (isSg_lt ho)
   have hb := (Ok.sourceM (L := L) (adv s)).rm
   exact sources_df n _ _ (by omega) (by omega)
  simp only
  split
  ·rename_i ho
   have ha := rm_adv (isKey_lt ho)
   have hb := (Ok.sourceM (L := L) (adv s)).rm
   have h3 : Ok L (sourceM L (adv s)).2 (must (isKey L (sourceM L (adv s)).2 5) (sourceM L (adv s)).2) := Ok.must fun h => isKey_lt h
   have h4 := h3.rm
   obtain ⟨x, s1, h1⟩ := hf _ (by omega : rm L (must (isKey L (sourceM L (adv s)).2 5) (sourceM L (adv s)).2) ≤ R)
   have h5 := (hk 1 _ _ _ h1).rm
   rw [h1]
   exact sources_df n _ s1 (by omega) (by omega)
  ·exact ⟨_, _, rfl⟩
theorem where_df {s : PS} (h : rm L s ≤ R) : Df (whereM L f) s := by
 unfold Df whereM
 split
 ·rename_i hc
  have ha := rm_adv (isKey_lt hc)
  obtain ⟨x, s1, h1⟩ := hf (adv s) (by omega)
  rw [h1]; exact ⟨_, _, rfl⟩
 ·exact ⟨_, _, rfl⟩
theorem sort_df {s : PS} (h : rm L s ≤ R) : Df (sortM L f) s := by
 unfold Df sortM
 obtain ⟨x, s1, h1⟩ := hf s h
 simp only [h1]
 split <;> exact ⟨_, _, rfl⟩
theorem order_df {s : PS} (h : rm L s ≤ R) : Df (orderM L f) s := by
 unfold Df orderM
 simp only
 split
 ·rename_i hc
  have ha := rm_adv (isKey_lt hc)
  have h3 : Ok L (adv s) (must (isKey L (adv s) 8) (adv s)) := Ok.must fun h => isKey_lt h
  have h4 := h3.rm
  obtain ⟨x, s1, h1⟩ := sort_df hk hf (s := must (isKey L (adv s) 8) (adv s)) (by omega)
  have h5 := (OkM.sort hk _ _ _ h1).rm
  rw [h1]
  exact sep_df (R := R) (OkM.sort hk) (fun s' hs' => sort_df hk hf (by omega)) _ _ s1 (by omega) (rm_le s1)
 ·exact ⟨_, _, rfl⟩
theorem items_df {s : PS} (h : rm L s ≤ R) : Df (itemsM L f) s := by
 unfold Df itemsM
 obtain ⟨x, s1, h1⟩ := item_df hk hf h
 have h5 := (OkM.item hk _ _ _ h1).rm
 rw [h1]
 exact sep_df (R := R) (OkM.item hk) (fun s' hs' => item_df hk hf (by omega)) _ _ s1 (by omega) (rm_le s1)
theorem stepQ_df {s : PS} (h : rm L s ≤ R) : Df (stepQ L f) s := by
 unfold Df stepQ
 simp only
 have k1 : Ok L s (must (isKey L s 1) s) := Ok.must fun h => isKey_lt h
 have k2 : Ok L (must (isKey L s 1) s) (tkIf (isKey L (must (isKey L s 1) s) 2) (must (isKey L s 1) s)) := Ok.tkIf fun h => isKey_lt h
 have k3 := (k1.trans k2).rm
 obtain ⟨its, s2, h1⟩ := items_df hk hf (s := tkIf (isKey L (must (isKey L s 1) s) 2) (must (isKey L s 1) s)) (by omega)
 have h2 := (OkM.items hk _ _ _ h1).rm
 simp only [h1]
 have k4 : Ok L s2 (must (isKey L s2 3) s2) := Ok.must fun h => isKey_lt h
 have k5 := (k4.trans (Ok.sourceM _)).rm
 obtain ⟨frs, s4, h3⟩ := sources_df hk hf (L.length + 1) [(sourceM L (must (isKey L s2 3) s2)).1] (sourceM L (must (isKey L s2 3) s2)).2 (by omega) (rm_le _)
 have h4 := (OkM.sources hk _ _ _ _ _ h3).rm
 simp only [h3]
 obtain ⟨wh, s5, h5⟩ := where_df hk hf (s := s4) (by omega)
 have h6 := (OkM.wher hk _ _ _ h5).rm
 simp only [h5]
 obtain ⟨od, s6, h7⟩ := order_df hk hf (s := s5) (by omega)
 simp only [h7]
 exact ⟨_, _, rfl⟩
end
theorem pP_df : ∀ k, (∀ lv, 1 ≤ lv → lv ≤ 9 → ∀ s, 16 * rm L s + 10 ≤ k + lv → Df ((pP L k).1 lv) s) ∧ (∀ s, 16 * rm L s + 11 ≤ k → Df (pP L k).2 s)
 | 0 => ⟨fun lv _ h2 s h => by omega, fun s h => by omega⟩
 | k + 1 => by
  obtain ⟨i1, i2⟩ := pP_df k
  obtain ⟨o1, o2⟩ := pP_ok (L := L) k
  refine ⟨fun lv h1 h2 s h => ?_, fun s h => ?_⟩
  ·exact stepE_df o1 o2 (R := rm L s) (fun lv' a b s' hs => i1 lv' a b s' (by omega)) (fun s' hs => i2 s' (by omega)) (Nat.le_refl _) h2 (fun hn => i1 _ (by omega) (by omega) s (by omega))
  ·exact stepQ_df o1 (R := rm L s) (fun s' hs => i1 1 (by omega) (by omega) s' (by omega)) (Nat.le_refl _)
def pD (L : List Tok) : Nat := 16 * L.length + 16
def pExpr (L : List Tok) : Nat → PM Expr := (pP L (pD L)).1
def pQuery (L : List Tok) : PM Query := (pP L (pD L)).2
theorem pExpr_df (lv : Nat) (h1 : 1 ≤ lv) (h2 : lv ≤ 9) (s : PS) : Df (pExpr L lv) s := (pP_df (pD L)).1 lv h1 h2 s (by unfold pD rm; omega)
theorem pQuery_df (s : PS) : Df (pQuery L) s := (pP_df (pD L)).2 s (by unfold pD rm; omega)
end
def zQuery : Query := .mk false [] [] [] [] 0
def zStmt : Stmt := .mk 0 zQuery z0 [] [] [] []
section
variable (L : List Tok)
def rowM (f : Nat → PM Expr) : PM ERow := fun s => match orsM L f (must (isSg L s 40) s) with
 | none => none
 | some (l, s1) => some (.mk l, must (isSg L s1 41) s1)
def rowsM (f : Nat → PM Expr) : PM (List ERow) := fun s => match rowM L f s with
 | none => none
 | some (x, s1) => sepM L (rowM L f) (L.length + 1) [x] s1
def setM (f : Nat → PM Expr) : PM (ByteArray × Expr) := fun s =>
 let s1 := (mText L 2 s).2
 match f 1 (must (isSg L s1 61) s1) with
 | none => none
 | some (e, s2) => some (((mText L 2 s).1, e), s2)
def setsM (f : Nat → PM Expr) : PM (List (ByteArray × Expr)) := fun s => match setM L f s with
 | none => none
 | some (x, s1) => sepM L (setM L f) (L.length + 1) [x] s1
def insertM (f : Nat → PM Expr) : PM Stmt := fun s =>
 let s1 := must (isKey L s 24) s
 let s2 := (mText L 2 s1).2
 match rowsM L f (must (isKey L s2 25) s2) with
 | none => none
 | some (rs, s3) => some (.mk 2 zQuery (mText L 2 s1).1 rs [] [] [], s3)
def updateM (f : Nat → PM Expr) : PM Stmt := fun s =>
 let s1 := (mText L 2 s).2
 match setsM L f (must (isKey L s1 27) s1) with
 | none => none
 | some (l, s2) => match whereM L f s2 with
  | none => none
  | some (w, s3) => some (.mk 3 zQuery (mText L 2 s).1 [] (l.map (·.1)) (l.map (·.2)) w, s3)
def deleteM (f : Nat → PM Expr) : PM Stmt := fun s =>
 let s1 := must (isKey L s 3) s
 match whereM L f (mText L 2 s1).2 with
 | none => none
 | some (w, s2) => some (.mk 4 zQuery (mText L 2 s1).1 [] [] [] w, s2)
def stmtM (f : Nat → PM Expr) (q : PM Query) : PM Stmt := fun s =>
 if isKey L s 1 = true then (match q s with
  | none => none
  | some (x, s1) => some (.mk 1 x z0 [] [] [] [], s1))
 else if isKey L s 23 = true then insertM L f (adv s)
 else if isKey L s 26 = true then updateM L f (adv s)
 else if isKey L s 28 = true then deleteM L f (adv s)
 else some (zStmt, fl s)
def endM (s : PS) : Int := if s.b = false ∧ L.length ≤ s.a then -1 else s.a
def s0 : PS := ⟨0, false⟩
def takeM {α : Type} (z : α) : Option (α × PS) → α × Int
 | none => (z, 0)
 | some (x, s) => if 0 ≤ endM L s then (z, endM L s) else (x, -1)
def takeS : Stmt × Int := takeM L zStmt (stmtM L (pExpr L) (pQuery L) s0)
end
section
variable {L : List Tok} {f : Nat → PM Expr} {q : PM Query}
theorem OkM.row (hf : ∀ lv, OkM (L := L) (f lv)) : OkM (L := L) (rowM L f) := fun s x s' h => by
 unfold rowM at h
 split at h
 ·cases h
 ·rename_i l s1 h1
  injection h with h; injection h with _ h; subst h
  exact (Ok.must fun h => isSg_lt h).trans ((OkM.ors hf _ _ _ h1).trans (Ok.must fun h => isSg_lt h))
theorem OkM.rows (hf : ∀ lv, OkM (L := L) (f lv)) : OkM (L := L) (rowsM L f) := fun s x s' h => by
 unfold rowsM at h
 split at h
 ·cases h
 ·rename_i y s1 h1
  exact (OkM.row hf _ _ _ h1).trans (OkM.sep (OkM.row hf) _ _ _ _ _ h)
theorem OkM.set1 (hf : ∀ lv, OkM (L := L) (f lv)) : OkM (L := L) (setM L f) := fun s x s' h => by
 unfold setM at h
 simp only at h
 split at h
 ·cases h
 ·rename_i y s1 h1
  injection h with h; injection h with _ h; subst h
  exact (Ok.mText 2 s).trans ((Ok.must fun h => isSg_lt h).trans (hf 1 _ _ _ h1))
theorem OkM.sets (hf : ∀ lv, OkM (L := L) (f lv)) : OkM (L := L) (setsM L f) := fun s x s' h => by
 unfold setsM at h
 split at h
 ·cases h
 ·rename_i y s1 h1
  exact (OkM.set1 hf _ _ _ h1).trans (OkM.sep (OkM.set1 hf) _ _ _ _ _ h)
theorem OkM.insert (hf : ∀ lv, OkM (L := L) (f lv)) : OkM (L := L) (insertM L f) := fun s x s' h => by
 unfold insertM at h
 simp only at h
 split at h
 ·cases h
 ·rename_i y s1 h1
  injection h with h; injection h with _ h; subst h
  exact (Ok.must fun h => isKey_lt h).trans ((Ok.mText 2 _).trans ((Ok.must fun h => isKey_lt h).trans (OkM.rows hf _ _ _ h1)))
theorem OkM.update (hf : ∀ lv, OkM (L := L) (f lv)) : OkM (L := L) (updateM L f) := fun s x s' h => by
 unfold updateM at h
 simp only at h
 split at h
 ·cases h
 ·rename_i y s1 h1
  split at h
  ·cases h
  ·rename_i z s2 h2
   injection h with h; injection h with _ h; subst h
   exact (Ok.mText 2 _).trans ((Ok.must fun h => isKey_lt h).trans ((OkM.sets hf _ _ _ h1).trans (OkM.wher hf _ _ _ h2)))
theorem OkM.delete (hf : ∀ lv, OkM (L := L) (f lv)) : OkM (L := L) (deleteM L f) := fun s x s' h => by
 unfold deleteM at h
 simp only at h
 split at h
 ·cases h
 ·rename_i y s1 h1
  injection h with h; injection h with _ h; subst h
  exact (Ok.must fun h => isKey_lt h).trans ((Ok.mText 2 _).trans (OkM.wher hf _ _ _ h1))
theorem OkM.stmt (hf : ∀ lv, OkM (L := L) (f lv)) (hq : OkM (L := L) q) : OkM (L := L) (stmtM L f q) := fun s x s' h => by
 unfold stmtM at h
 split at h
 ·split at h
  ·cases h
  ·rename_i y s1 h1
   injection h with h; injection h with _ h; subst h
   exact hq _ _ _ h1
 split at h
 ·rename_i hc; exact (Ok.adv (isKey_lt hc)).trans (OkM.insert hf _ _ _ h)
 split at h
 ·rename_i hc; exact (Ok.adv (isKey_lt hc)).trans (OkM.update hf _ _ _ h)
 split at h
 ·rename_i hc; exact (Ok.adv (isKey_lt hc)).trans (OkM.delete hf _ _ _ h)
 ·injection h with h; injection h with _ h; subst h; exact Ok.fl s
theorem pExpr_ok (lv : Nat) : OkM (L := L) (pExpr L lv) := (pP_ok (pD L)).1 lv
theorem pQuery_ok : OkM (L := L) (pQuery L) := (pP_ok (pD L)).2
section
variable (hk : ∀ lv, OkM (L := L) (f lv)) (hf : ∀ s, Df (f 1) s)
include hk hf
theorem ors_all (s : PS) : Df (orsM L f) s := by
 obtain ⟨x, s1, h1⟩ := hf s
 unfold Df orsM
 rw [h1]
 exact sep_df (R := L.length) (hk 1) (fun s _ => hf s) _ _ s1 (by show L.length - s1.a ≤ _; omega) (rm_le s1)
theorem row_all (s : PS) : Df (rowM L f) s := by
 obtain ⟨x, s1, h1⟩ := ors_all hk hf (must (isSg L s 40) s)
 unfold Df rowM
 rw [h1]; exact ⟨_, _, rfl⟩
theorem rows_all (s : PS) : Df (rowsM L f) s := by
 obtain ⟨x, s1, h1⟩ := row_all hk hf s
 unfold Df rowsM
 rw [h1]
 exact sep_df (R := L.length) (OkM.row hk) (fun s _ => row_all hk hf s) _ _ s1 (by show L.length - s1.a ≤ _; omega) (rm_le s1)
theorem set_all (s : PS) : Df (setM L f) s := by
 unfold Df setM
 simp only
 obtain ⟨x, s1, h1⟩ := hf (must (isSg L (mText L 2 s).2 61) (mText L 2 s).2)
 rw [h1]; exact ⟨_, _, rfl⟩
theorem sets_all (s : PS) : Df (setsM L f) s := by
 obtain ⟨x, s1, h1⟩ := set_all hk hf s
 unfold Df setsM
 rw [h1]
 exact sep_df (R := L.length) (OkM.set1 hk) (fun s _ => set_all hk hf s) _ _ s1 (by show L.length - s1.a ≤ _; omega) (rm_le s1)
theorem where_all (s : PS) : Df (whereM L f) s := where_df hk (R := L.length) (fun s _ => hf s) (by show L.length - s.a ≤ _; omega)
theorem stmt_all (hq : ∀ s, Df q s) (s : PS) : Df (stmtM L f q) s := by
 unfold Df stmtM
 split
 ·obtain ⟨x, s1, h1⟩ := hq s
  rw [h1]; exact ⟨_, _, rfl⟩
 split
 ·unfold insertM
  simp only
  obtain ⟨x, s1, h1⟩ := rows_all hk hf (must (isKey L (mText L 2 (must (isKey L (adv s) 24) (adv s))).2 25) (mText L 2 (must (isKey L (adv s) 24) (adv s))).2)
  rw [h1]; exact ⟨_, _, rfl⟩
 split
 ·unfold updateM
  simp only
  obtain ⟨x, s1, h1⟩ := sets_all hk hf (must (isKey L (mText L 2 (adv s)).2 27) (mText L 2 (adv s)).2)
  simp only [h1]
  obtain ⟨y, s2, h2⟩ := where_all hk hf s1
  rw [h2]; exact ⟨_, _, rfl⟩
 split
 ·unfold deleteM
  simp only
  obtain ⟨y, s2, h2⟩ := where_all hk hf (mText L 2 (must (isKey L (adv s) 3) (adv s))).2
  rw [h2]; exact ⟨_, _, rfl⟩
 ·exact ⟨_, _, rfl⟩
end
end
section
variable {L : List Tok}
def Wt {α : Type} (m : PM α) (w : α → Nat) (c : Nat) : Prop := ∀ s x s', m s = some (x, s') → w x + 64 * s.a ≤ c + 64 * s'.a
theorem adv_a (s : PS) : (adv s).a = s.a + 1 := rfl
theorem fl_a (s : PS) : (fl s).a = s.a := rfl
theorem must_a (c : Bool) (s : PS) : s.a ≤ (must c s).a := by unfold must; split <;> simp [adv, fl]
theorem tkIf_a (c : Bool) (s : PS) : s.a ≤ (tkIf c s).a := by unfold tkIf; split <;> simp [adv]
theorem mText_a (k : Int) (s : PS) : s.a ≤ (mText L k s).2.a := by unfold mText; split <;> simp [adv, fl]
theorem asM_a (s : PS) : s.a ≤ (asM L s).2.a := by
 unfold asM
 split
 ·have := mText_a (L := L) 2 (adv s); rw [adv_a] at this; omega
 ·exact Nat.le_refl _
theorem sourceM_a (s : PS) : s.a ≤ (sourceM L s).2.a := Nat.le_trans (mText_a (L := L) 2 s) (asM_a _)
theorem sourceM_w (s : PS) : cnSource (sourceM L s).1 = 2 := rfl
theorem withOn_w (x : Source) (h : cnSource x = 2) (e : Expr) : cnSource (x.withOn [e]) ≤ 2 + cnExpr e := by
 obtain ⟨a, b, c⟩ := x
 simp only [Source.withOn, cnSource_mk, cnL]
 omega
theorem limitM_a (s : PS) : s.a ≤ (limitM L s).2.a := by
 unfold limitM
 split
 ·have := mText_a (L := L) 3 (adv s); rw [adv_a] at this; show s.a ≤ (mText L 3 (adv s)).2.a; omega
 ·exact Nat.le_refl _
variable {f : Nat → PM Expr} {q : PM Query}
theorem Wt.chain {g : PM Expr} (hg : Wt g cnExpr 8) (lv : Nat) : ∀ (n : Nat) (e : Expr) (s : PS) (x : Expr) (s' : PS), chainM L g lv n e s = some (x, s') → cnExpr x + 64 * s.a ≤ cnExpr e + 64 * s'.a
 | 0, _, _, _, _, h => by cases h
 | n + 1, e, s, x, s', h => by
  rw [chainM] at h
  split at h
  ·injection h with h; injection h with hx h; subst hx h; exact Nat.le_refl _
  ·split at h
   ·cases h
   ·rename_i y s1 h1
    have a1 := hg _ _ _ h1
    have a2 := Wt.chain hg lv n _ _ _ _ h
    (try simp only [mBin, mUn, mKids, mLit, mCol, zExpr, cnExpr_mk, cnItem_mk, cnSource_mk, cnSortKey_mk, cnQuery_mk, cnL, cnL_app, adv_a, fl_a] at *); omega
theorem Wt.sep {α : Type} {g : PM α} {w : α → Nat} {c : Nat} (hc : c ≤ 64) (hg : Wt g w c) : ∀ (n : Nat) (l : List α) (s : PS) (x : List α) (s' : PS), sepM L g n l s = some (x, s') → cnL w x + 64 * s.a ≤ cnL w l + 64 * s'.a
 | 0, _, _, _, _, h => by cases h
 | n + 1, l, s, x, s', h => by
  rw [sepM] at h
  split at h
  ·split at h
   ·cases h
   ·rename_i y s1 h1
    have a1 := hg _ _ _ h1
    have a2 := Wt.sep hc hg n _ _ _ _ h
    (try simp only [mBin, mUn, mKids, mLit, mCol, zExpr, cnExpr_mk, cnItem_mk, cnSource_mk, cnSortKey_mk, cnQuery_mk, cnL, cnL_app, adv_a, fl_a] at *); omega
  ·injection h with h; injection h with hx h; subst hx h; exact Nat.le_refl _
theorem Wt.ors (hf : ∀ lv, Wt (f lv) cnExpr 8) : Wt (orsM L f) (cnL cnExpr) 8 := fun s x s' h => by
 unfold orsM at h
 split at h
 ·cases h
 ·rename_i y s1 h1
  have a1 := hf 1 _ _ _ h1
  have a2 := Wt.sep (by omega) (hf 1) _ _ _ _ _ h
  (try simp only [mBin, mUn, mKids, mLit, mCol, zExpr, cnExpr_mk, cnItem_mk, cnSource_mk, cnSortKey_mk, cnQuery_mk, cnL, cnL_app, adv_a, fl_a] at *); omega
theorem Wt.inn (hf : ∀ lv, Wt (f lv) cnExpr 8) (hq : Wt q cnQuery 15) (e : Expr) (n : Bool) (s : PS) (x : Expr) (s' : PS) (h : inM L f q e n s = some (x, s')) : cnExpr x + 64 * s.a ≤ cnExpr e + 40 + 64 * s'.a := by
 unfold inM at h
 simp only at h
 have m1 := must_a (isSg L s 40) s
 split at h
 ·split at h
  ·cases h
  ·rename_i y s1 h1
   injection h with h; injection h with hx h; subst hx h
   have a1 := hq _ _ _ h1
   have m2 := must_a (isSg L s1 41) s1
   (try simp only [mBin, mUn, mKids, mLit, mCol, zExpr, cnExpr_mk, cnItem_mk, cnSource_mk, cnSortKey_mk, cnQuery_mk, cnL, cnL_app, adv_a, fl_a] at *); omega
 ·split at h
  ·cases h
  ·rename_i y s1 h1
   injection h with h; injection h with hx h; subst hx h
   have a1 := Wt.ors hf _ _ _ h1
   have m2 := must_a (isSg L s1 41) s1
   (try simp only [mBin, mUn, mKids, mLit, mCol, zExpr, cnExpr_mk, cnItem_mk, cnSource_mk, cnSortKey_mk, cnQuery_mk, cnL, cnL_app, adv_a, fl_a] at *); omega
theorem Wt.cmpT (hf : ∀ lv, Wt (f lv) cnExpr 8) (hq : Wt q cnQuery 15) (e : Expr) (s : PS) (x : Expr) (s' : PS) (h : cmpT L f q e s = some (x, s')) : cnExpr x + 64 * s.a ≤ cnExpr e + 64 * s'.a := by
 unfold Go.Proofs.YteffjmaadkkmeaaGreatDoor.cmpT at h
 simp only at h
 split at h
 ·injection h with h; injection h with hx h; subst hx h
  have m1 := tkIf_a (isKey L (adv s) 15) (adv s)
  have m2 := must_a (isKey L (tkIf (isKey L (adv s) 15) (adv s)) 20) (tkIf (isKey L (adv s) 15) (adv s))
  (try simp only [mBin, mUn, mKids, mLit, mCol, zExpr, cnExpr_mk, cnItem_mk, cnSource_mk, cnSortKey_mk, cnQuery_mk, cnL, cnL_app, adv_a, fl_a] at *); omega
 ·have m0 := tkIf_a (isKey L s 15) s
  split at h
  ·split at h
   ·cases h
   ·rename_i y s1 h1
    split at h
    ·cases h
    ·rename_i z s2 h2
     injection h with h; injection h with hx h; subst hx h
     have a1 := hf 5 _ _ _ h1
     have a2 := hf 5 _ _ _ h2
     have m2 := must_a (isKey L s1 13) s1
     (try simp only [mBin, mUn, mKids, mLit, mCol, zExpr, cnExpr_mk, cnItem_mk, cnSource_mk, cnSortKey_mk, cnQuery_mk, cnL, cnL_app, adv_a, fl_a] at *); omega
  ·split at h
   ·have a1 := Wt.inn hf hq e _ _ _ _ h
    (try simp only [mBin, mUn, mKids, mLit, mCol, zExpr, cnExpr_mk, cnItem_mk, cnSource_mk, cnSortKey_mk, cnQuery_mk, cnL, cnL_app, adv_a, fl_a] at *); omega
   ·injection h with h; injection h with hx h; subst hx h
    show cnExpr e + 64 * s.a ≤ cnExpr e + 64 * (tkIf (isKey L s 15) s).a
    omega
theorem Wt.cmp (hf : ∀ lv, Wt (f lv) cnExpr 8) (hq : Wt q cnQuery 15) : Wt (cmpM L f q) cnExpr 8 := fun s x s' h => by
 unfold cmpM at h
 split at h
 ·cases h
 ·rename_i y s1 h1
  have a1 := hf 5 _ _ _ h1
  split at h
  ·have a2 := Wt.cmpT hf hq _ _ _ _ h
   omega
  ·split at h
   ·cases h
   ·rename_i z s2 h2
    injection h with h; injection h with hx h; subst hx h
    have a2 := hf 5 _ _ _ h2
    (try simp only [mBin, mUn, mKids, mLit, mCol, zExpr, cnExpr_mk, cnItem_mk, cnSource_mk, cnSortKey_mk, cnQuery_mk, cnL, cnL_app, adv_a, fl_a] at *); omega
theorem Wt.prim (hf : ∀ lv, Wt (f lv) cnExpr 8) (hq : Wt q cnQuery 15) : Wt (primM L f q) cnExpr 8 := fun s x s' h => by
 unfold primM at h
 simp only at h
 split at h
 ·injection h with h; injection h with hx h; subst hx h; (try simp only [mBin, mUn, mKids, mLit, mCol, zExpr, cnExpr_mk, cnItem_mk, cnSource_mk, cnSortKey_mk, cnQuery_mk, cnL, cnL_app, adv_a, fl_a] at *); omega
 split at h
 ·injection h with h; injection h with hx h; subst hx h; (try simp only [mBin, mUn, mKids, mLit, mCol, zExpr, cnExpr_mk, cnItem_mk, cnSource_mk, cnSortKey_mk, cnQuery_mk, cnL, cnL_app, adv_a, fl_a] at *); omega
 split at h
 ·injection h with h; injection h with hx h; subst hx h; (try simp only [mBin, mUn, mKids, mLit, mCol, zExpr, cnExpr_mk, cnItem_mk, cnSource_mk, cnSortKey_mk, cnQuery_mk, cnL, cnL_app, adv_a, fl_a] at *); omega
 split at h
 ·injection h with h; injection h with hx h; subst hx h; (try simp only [mBin, mUn, mKids, mLit, mCol, zExpr, cnExpr_mk, cnItem_mk, cnSource_mk, cnSortKey_mk, cnQuery_mk, cnL, cnL_app, adv_a, fl_a] at *); omega
 split at h
 ·injection h with h; injection h with hx h; subst hx h; (try simp only [mBin, mUn, mKids, mLit, mCol, zExpr, cnExpr_mk, cnItem_mk, cnSource_mk, cnSortKey_mk, cnQuery_mk, cnL, cnL_app, adv_a, fl_a] at *); omega
 split at h
 ·split at h
  ·injection h with h; injection h with hx h; subst hx h
   have m1 := mText_a (L := L) 2 (adv (adv s))
   (try simp only [mBin, mUn, mKids, mLit, mCol, zExpr, cnExpr_mk, cnItem_mk, cnSource_mk, cnSortKey_mk, cnQuery_mk, cnL, cnL_app, adv_a, fl_a] at *); omega
  ·injection h with h; injection h with hx h; subst hx h; (try simp only [mBin, mUn, mKids, mLit, mCol, zExpr, cnExpr_mk, cnItem_mk, cnSource_mk, cnSortKey_mk, cnQuery_mk, cnL, cnL_app, adv_a, fl_a] at *); omega
 split at h
 ·split at h
  ·cases h
  ·rename_i y s1 h1
   injection h with h; injection h with hx h; subst hx h
   have a1 := hf 1 _ _ _ h1
   have m1 := must_a (isSg L s1 41) s1
   (try simp only [mBin, mUn, mKids, mLit, mCol, zExpr, cnExpr_mk, cnItem_mk, cnSource_mk, cnSortKey_mk, cnQuery_mk, cnL, cnL_app, adv_a, fl_a] at *); omega
 split at h
 ·split at h
  ·cases h
  ·rename_i y s1 h1
   injection h with h; injection h with hx h; subst hx h
   have a1 := hq _ _ _ h1
   have m1 := must_a (isSg L (adv s) 40) (adv s)
   have m2 := must_a (isSg L s1 41) s1
   (try simp only [mBin, mUn, mKids, mLit, mCol, zExpr, cnExpr_mk, cnItem_mk, cnSource_mk, cnSortKey_mk, cnQuery_mk, cnL, cnL_app, adv_a, fl_a] at *); omega
 ·injection h with h; injection h with hx h; subst hx h; (try simp only [mBin, mUn, mKids, mLit, mCol, zExpr, cnExpr_mk, cnItem_mk, cnSource_mk, cnSortKey_mk, cnQuery_mk, cnL, cnL_app, adv_a, fl_a] at *); omega
theorem Wt.stepE (hf : ∀ lv, Wt (f lv) cnExpr 8) (hq : Wt q cnQuery 15) (lv : Nat) : Wt (stepE L f q lv) cnExpr 8 := fun s x s' h => by
 unfold Go.Proofs.YteffjmaadkkmeaaGreatDoor.stepE at h
 split at h
 ·split at h
  ·split at h
   ·cases h
   ·rename_i y s1 h1
    injection h with h; injection h with hx h; subst hx h
    have a1 := hf 3 _ _ _ h1
    (try simp only [mBin, mUn, mKids, mLit, mCol, zExpr, cnExpr_mk, cnItem_mk, cnSource_mk, cnSortKey_mk, cnQuery_mk, cnL, cnL_app, adv_a, fl_a] at *); omega
  ·exact hf 4 _ _ _ h
 split at h
 ·exact Wt.cmp hf hq _ _ _ h
 split at h
 ·split at h
  ·split at h
   ·cases h
   ·rename_i y s1 h1
    injection h with h; injection h with hx h; subst hx h
    have a1 := hf 8 _ _ _ h1
    (try simp only [mBin, mUn, mKids, mLit, mCol, zExpr, cnExpr_mk, cnItem_mk, cnSource_mk, cnSortKey_mk, cnQuery_mk, cnL, cnL_app, adv_a, fl_a] at *); omega
  ·exact hf 9 _ _ _ h
 split at h
 ·exact Wt.prim hf hq _ _ _ h
 ·split at h
  ·cases h
  ·rename_i y s1 h1
   have a1 := hf _ _ _ _ h1
   have a2 := Wt.chain (hf _) lv _ _ _ _ _ h
   omega
theorem Wt.item (hf : ∀ lv, Wt (f lv) cnExpr 8) : Wt (itemM L f) cnItem 11 := fun s x s' h => by
 unfold itemM at h
 split at h
 ·injection h with h; injection h with hx h; subst hx h; (try simp only [mBin, mUn, mKids, mLit, mCol, zExpr, cnExpr_mk, cnItem_mk, cnSource_mk, cnSortKey_mk, cnQuery_mk, cnL, cnL_app, adv_a, fl_a] at *); omega
 split at h
 ·injection h with h; injection h with hx h; subst hx h; (try simp only [mBin, mUn, mKids, mLit, mCol, zExpr, cnExpr_mk, cnItem_mk, cnSource_mk, cnSortKey_mk, cnQuery_mk, cnL, cnL_app, adv_a, fl_a] at *); omega
 split at h
 ·cases h
 ·rename_i y s1 h1
  injection h with h; injection h with hx h; subst hx h
  have a1 := hf 1 _ _ _ h1
  have m1 := asM_a (L := L) s1
  have e : cnItem (.mk false z0 y (asM L s1).1) = 3 + cnExpr y := by
   obtain ⟨a, b, c, d, e, f, g, h⟩ := y
   simp only [cnItem_mk, cnExpr_mk]; omega
  rw [e]
  omega
theorem Wt.sources (hf : ∀ lv, Wt (f lv) cnExpr 8) : ∀ (n : Nat) (l : List Source) (s : PS) (x : List Source) (s' : PS), sourcesM L f n l s = some (x, s') → cnL cnSource x + 64 * s.a ≤ cnL cnSource l + 64 * s'.a
 | 0, _, _, _, _, h => by cases h
 | n + 1, l, s, x, s', h => by
  rw [sourcesM] at h
  have m1 := sourceM_a (L := L) (adv s)
  have w1 := sourceM_w (L := L) (adv s)
  split at h
  ·have a2 := Wt.sources hf n _ _ _ _ h
   (try simp only [mBin, mUn, mKids, mLit, mCol, zExpr, cnExpr_mk, cnItem_mk, cnSource_mk, cnSortKey_mk, cnQuery_mk, cnL, cnL_app, adv_a, fl_a] at *); omega
  simp only at h
  split at h
  ·split at h
   ·cases h
   ·rename_i y s1 h1
    have a1 := hf 1 _ _ _ h1
    have m2 := must_a (isKey L (sourceM L (adv s)).2 5) (sourceM L (adv s)).2
    have a2 := Wt.sources hf n _ _ _ _ h
    have w2 := withOn_w _ w1 y
    (try simp only [mBin, mUn, mKids, mLit, mCol, zExpr, cnExpr_mk, cnItem_mk, cnSource_mk, cnSortKey_mk, cnQuery_mk, cnL, cnL_app, adv_a, fl_a] at *); omega
  ·injection h with h; injection h with hx h; subst hx h; exact Nat.le_refl _
theorem Wt.wher (hf : ∀ lv, Wt (f lv) cnExpr 8) : Wt (whereM L f) (cnL cnExpr) 0 := fun s x s' h => by
 unfold whereM at h
 split at h
 ·split at h
  ·cases h
  ·rename_i y s1 h1
   injection h with h; injection h with hx h; subst hx h
   have a1 := hf 1 _ _ _ h1
   (try simp only [mBin, mUn, mKids, mLit, mCol, zExpr, cnExpr_mk, cnItem_mk, cnSource_mk, cnSortKey_mk, cnQuery_mk, cnL, cnL_app, adv_a, fl_a] at *); omega
 ·injection h with h; injection h with hx h; subst hx h; (try simp only [mBin, mUn, mKids, mLit, mCol, zExpr, cnExpr_mk, cnItem_mk, cnSource_mk, cnSortKey_mk, cnQuery_mk, cnL, cnL_app, adv_a, fl_a] at *); omega
theorem cnSort_eq (e : Expr) (d : Bool) : cnSortKey (.mk e d) = 1 + cnExpr e := by
 obtain ⟨a, b, c, d, e, f, g, h⟩ := e
 simp only [cnSortKey_mk, cnExpr_mk]; omega
theorem Wt.sort (hf : ∀ lv, Wt (f lv) cnExpr 8) : Wt (sortM L f) cnSortKey 9 := fun s x s' h => by
 unfold sortM at h
 split at h
 ·cases h
 ·rename_i y s1 h1
  have a1 := hf 1 _ _ _ h1
  split at h
  ·injection h with h; injection h with hx h; subst hx h
   rw [cnSort_eq, adv_a]
   omega
  ·injection h with h; injection h with hx h; subst hx h
   have m1 := tkIf_a (isKey L s1 10) s1
   rw [cnSort_eq]
   omega
theorem Wt.order (hf : ∀ lv, Wt (f lv) cnExpr 8) : Wt (orderM L f) (cnL cnSortKey) 0 := fun s x s' h => by
 unfold orderM at h
 simp only at h
 split at h
 ·split at h
  ·cases h
  ·rename_i y s1 h1
   have m1 := must_a (isKey L (adv s) 8) (adv s)
   have a1 := Wt.sort hf _ _ _ h1
   have a2 := Wt.sep (by omega) (Wt.sort hf) _ _ _ _ _ h
   (try simp only [mBin, mUn, mKids, mLit, mCol, zExpr, cnExpr_mk, cnItem_mk, cnSource_mk, cnSortKey_mk, cnQuery_mk, cnL, cnL_app, adv_a, fl_a] at *); omega
 ·injection h with h; injection h with hx h; subst hx h; (try simp only [mBin, mUn, mKids, mLit, mCol, zExpr, cnExpr_mk, cnItem_mk, cnSource_mk, cnSortKey_mk, cnQuery_mk, cnL, cnL_app, adv_a, fl_a] at *); omega
theorem Wt.items (hf : ∀ lv, Wt (f lv) cnExpr 8) : Wt (itemsM L f) (cnL cnItem) 11 := fun s x s' h => by
 unfold itemsM at h
 split at h
 ·cases h
 ·rename_i y s1 h1
  have a1 := Wt.item hf _ _ _ h1
  have a2 := Wt.sep (by omega) (Wt.item hf) _ _ _ _ _ h
  (try simp only [mBin, mUn, mKids, mLit, mCol, zExpr, cnExpr_mk, cnItem_mk, cnSource_mk, cnSortKey_mk, cnQuery_mk, cnL, cnL_app, adv_a, fl_a] at *); omega
theorem Wt.stepQ (hf : ∀ lv, Wt (f lv) cnExpr 8) : Wt (stepQ L f) cnQuery 15 := fun s x s' h => by
 unfold Go.Proofs.YteffjmaadkkmeaaGreatDoor.stepQ at h
 simp only at h
 split at h
 ·cases h
 rename_i its s2 h1
 split at h
 ·cases h
 rename_i frs s4 h2
 split at h
 ·cases h
 rename_i wh s5 h3
 split at h
 ·cases h
 rename_i od s6 h4
 injection h with h; injection h with hx h; subst hx h
 have m1 := must_a (isKey L s 1) s
 have m2 := tkIf_a (isKey L (must (isKey L s 1) s) 2) (must (isKey L s 1) s)
 have a1 := Wt.items hf _ _ _ h1
 have m3 := must_a (isKey L s2 3) s2
 have m4 := sourceM_a (L := L) (must (isKey L s2 3) s2)
 have w1 := sourceM_w (L := L) (must (isKey L s2 3) s2)
 have a2 := Wt.sources hf _ _ _ _ _ h2
 have a3 := Wt.wher hf _ _ _ h3
 have a4 := Wt.order hf _ _ _ h4
 have m5 := limitM_a (L := L) s6
 (try simp only [mBin, mUn, mKids, mLit, mCol, zExpr, cnExpr_mk, cnItem_mk, cnSource_mk, cnSortKey_mk, cnQuery_mk, cnL, cnL_app, adv_a, fl_a] at *); omega
theorem pP_wt : ∀ k, (∀ lv, Wt ((pP L k).1 lv) cnExpr 8) ∧ Wt (pP L k).2 cnQuery 15
 | 0 => ⟨fun _ _ _ _ h => (by cases h), fun _ _ _ h => (by cases h)⟩
 | k + 1 => ⟨fun lv => Wt.stepE (pP_wt k).1 (pP_wt k).2 lv, Wt.stepQ (pP_wt k).1⟩
end
end Go.Proofs.YteffjmaadkkmeaaGreatDoor
set_option maxRecDepth 8000
namespace Go.Proofs.YteffjmaadkkmeaaGreatDoor
open Go Go.Dv
open Go.Vc (D shrI xorI andI and255)
open Go.Cv
open Go.Vc (CellF ValsF callable)
def HdC {α : Type} (fn : FuncId) (row : α → List D) (f : Int → α → α) (c : α → Nat) (es : List α) : Prop :=
 ∀ k : Int, 0 ≤ k → k + cnL c es ≤ 4611686018427387904 → Cl Tryz.prog fn [.c (.sl es.length ((mkL f c k es).flatMap row) none), vi k] [] fun r _ => r = vi (k + cnL c es)
def HdExpr : Expr → Prop
 | .mk _ _ _ _ _ _ kids sub => HdC 51 Expr.row mkExpr cnExpr kids ∧ HdC 52 Query.row mkQuery cnQuery sub
def HdItem : Item → Prop
 | .mk _ _ e _ => HdExpr e
def HdSource : Source → Prop
 | .mk _ _ on => HdC 51 Expr.row mkExpr cnExpr on
def HdSortKey : SortKey → Prop
 | .mk e _ => HdExpr e
def HdQuery : Query → Prop
 | .mk _ items from_ where_ order _ => HdC 61 Item.row mkItem cnItem items ∧ HdC 62 Source.row mkSource cnSource from_ ∧ HdC 51 Expr.row mkExpr cnExpr where_ ∧ HdC 63 SortKey.row mkSortKey cnSortKey order
set_option maxHeartbeats 8000000 in
theorem heldExprs_step (es : List Expr) (hx : ∀ e ∈ es, HdExpr e) : HdC 51 Expr.row mkExpr cnExpr es := by
 intro k h0 hk
 obtain ⟨ms, hms⟩ : ∃ ms, ms = mkL mkExpr cnExpr k es := ⟨_, rfl⟩
 have hml : es.length = ms.length := by rw [hms, mkL_len]
 rw [← hms, hml]
 refine cl_of_d follows_mixed false Tryz.func51 rfl (by kernel_rfl) ?_
 simp only [Tryz.f51, tt, seval]
 refine dLoop.intro (fun f L p => ∃ i : Nat, f 5 = vi i ∧ f 1 = vi (k + cnL cnExpr (es.take i)) ∧ i ≤ ms.length ∧ L = [] ∧ p = none) (fun f _ _ => (ms.length - ixS (f 5)).toNat) [] none ⟨SubO.nil _, PoSub.none _, ?_⟩ ?_
 ·simp only [tt, seval]
  exact ⟨0, rfl, viE (by simp [cnL]), by omega⟩
 ·rintro g L p ⟨i, h5, h1, hi, rfl, rfl⟩
  simp only [tt, seval] at h5 h1
  simp only [tt, seval, h5, h1, Int.ofNat_lt]
  refine fun _ => And.intro (fun hlt => ?_) (fun hge => ?_)
  ·have hlt : i < ms.length := by omega
   have hlt' : i < es.length := by omega
   have hks := cnL_take_succ cnExpr es i hlt'
   have hkl := cnL_take_le cnExpr es (i + 1)
   have hx' : ms[i]? = some (mkExpr (k + cnL cnExpr (es.take i)) es[i]) := by rw [hms]; exact mkL_get _ _ _ _ _ hlt'
   generalize hk0 : k + (cnL cnExpr (es.take i) : Int) = k0 at *
   have hxe := hx _ (List.getElem_mem hlt')
   obtain ⟨e, he⟩ : ∃ e, es[i] = e := ⟨_, rfl⟩
   rw [he] at hx' hks hxe
   obtain ⟨kind, op, not, val, qual, name, kids, sub⟩ := e
   obtain ⟨Hkids, Hsub⟩ := hxe
   rw [cnExpr_mk] at hks
   rw [mkExpr_mk] at hx'
   have i0 : ((0 : Int) ≤ (i : Int)) = True := eq_true (by omega)
   have iL : ((i : Int) < (ms.length : Int)) = True := eq_true (by omega)
   have iT : (i < ms.length) = True := eq_true hlt
   simp only [tt, seval, h5, h1, idxAt hx' Expr.row_len, i0, iL, iT, mkL_len, Expr.row_mk, Val.row, List.cons_append, List.nil_append, List.append_assoc]
   rw [wrap_id (n := k0 + 1) (by omega) (by omega)]
   generalize hk1 : k0 + 1 = k1 at *
   try simp only [tt, seval, h5, h1, idxAt hx' Expr.row_len, i0, iL, iT, mkL_len, Expr.row_mk, Val.row, List.cons_append, List.nil_append, List.append_assoc]
   rw [wrap_id (n := k1 + 1) (by omega) (by omega)]
   generalize hk2 : k1 + 1 = k2 at *
   try simp only [tt, seval, h5, h1, idxAt hx' Expr.row_len, i0, iL, iT, mkL_len, Expr.row_mk, Val.row, List.cons_append, List.nil_append, List.append_assoc]
   rw [wrap_id (n := k2 + 1) (by omega) (by omega)]
   generalize hk3 : k2 + 1 = k3 at *
   try simp only [tt, seval, h5, h1, idxAt hx' Expr.row_len, i0, iL, iT, mkL_len, Expr.row_mk, Val.row, List.cons_append, List.nil_append, List.append_assoc]
   rw [wrap_id (n := k3 + 1) (by omega) (by omega)]
   generalize hk4 : k3 + 1 = k4 at *
   try simp only [tt, seval, h5, h1, idxAt hx' Expr.row_len, i0, iL, iT, mkL_len, Expr.row_mk, Val.row, List.cons_append, List.nil_append, List.append_assoc]
   rw [wrap_id (n := k4 + 1) (by omega) (by omega)]
   generalize hk5 : k4 + 1 = k5 at *
   try simp only [tt, seval, h5, h1, idxAt hx' Expr.row_len, i0, iL, iT, mkL_len, Expr.row_mk, Val.row, List.cons_append, List.nil_append, List.append_assoc]
   refine dDrawn.intro [] (pln [0, 2, 4, 6, 8, 10, 12, 15, 16]) (by kernel_rfl) ?_
   simp only [tt, seval]
   all_goals try simp only [tt, seval, h5, h1, idxAt hx' Expr.row_len, i0, iL, iT, mkL_len, Expr.row_mk, Val.row, List.cons_append, List.nil_append, List.append_assoc]
   refine call0 (markText_d (k5) (by omega)) ?_ ?_ ?_
   ·decide
   ·simp only [tt, seval, h5, h1, idxAt hx' Expr.row_len, i0, iL, iT, mkL_len, Expr.row_mk, Val.row, List.cons_append, List.nil_append, List.append_assoc]
   rintro r rfl
   simp only [tt, seval, h5, h1, idxAt hx' Expr.row_len, i0, iL, iT, mkL_len, Expr.row_mk, Val.row, List.cons_append, List.nil_append, List.append_assoc]
   rw [wrap_id (n := k5 + 1) (by omega) (by omega)]
   generalize hk6 : k5 + 1 = k6 at *
   try simp only [tt, seval, h5, h1, idxAt hx' Expr.row_len, i0, iL, iT, mkL_len, Expr.row_mk, Val.row, List.cons_append, List.nil_append, List.append_assoc]
   refine dDrawn.intro [] (pln [0, 2, 4, 6, 8, 10, 13, 14]) (by kernel_rfl) ?_
   simp only [tt, seval]
   all_goals try simp only [tt, seval, h5, h1, idxAt hx' Expr.row_len, i0, iL, iT, mkL_len, Expr.row_mk, Val.row, List.cons_append, List.nil_append, List.append_assoc]
   refine call0 (markText_d (k6) (by omega)) ?_ ?_ ?_
   ·decide
   ·simp only [tt, seval, h5, h1, idxAt hx' Expr.row_len, i0, iL, iT, mkL_len, Expr.row_mk, Val.row, List.cons_append, List.nil_append, List.append_assoc]
   rintro r rfl
   simp only [tt, seval, h5, h1, idxAt hx' Expr.row_len, i0, iL, iT, mkL_len, Expr.row_mk, Val.row, List.cons_append, List.nil_append, List.append_assoc]
   rw [wrap_id (n := k6 + 1) (by omega) (by omega)]
   generalize hk7 : k6 + 1 = k7 at *
   try simp only [tt, seval, h5, h1, idxAt hx' Expr.row_len, i0, iL, iT, mkL_len, Expr.row_mk, Val.row, List.cons_append, List.nil_append, List.append_assoc]
   refine dDrawn.intro [] (pln [0, 2, 4, 6, 8, 10, 13, 14]) (by kernel_rfl) ?_
   simp only [tt, seval]
   all_goals try simp only [tt, seval, h5, h1, idxAt hx' Expr.row_len, i0, iL, iT, mkL_len, Expr.row_mk, Val.row, List.cons_append, List.nil_append, List.append_assoc]
   refine call0 (markText_d (k7) (by omega)) ?_ ?_ ?_
   ·decide
   ·simp only [tt, seval, h5, h1, idxAt hx' Expr.row_len, i0, iL, iT, mkL_len, Expr.row_mk, Val.row, List.cons_append, List.nil_append, List.append_assoc]
   rintro r rfl
   simp only [tt, seval, h5, h1, idxAt hx' Expr.row_len, i0, iL, iT, mkL_len, Expr.row_mk, Val.row, List.cons_append, List.nil_append, List.append_assoc]
   rw [wrap_id (n := k7 + 1) (by omega) (by omega)]
   generalize hk8 : k7 + 1 = k8 at *
   try simp only [tt, seval, h5, h1, idxAt hx' Expr.row_len, i0, iL, iT, mkL_len, Expr.row_mk, Val.row, List.cons_append, List.nil_append, List.append_assoc]
   refine call0 (Hkids (k8) (by omega) (by omega)) ?_ ?_ ?_
   ·decide
   ·simp only [tt, seval, h5, h1, idxAt hx' Expr.row_len, i0, iL, iT, mkL_len, Expr.row_mk, Val.row, List.cons_append, List.nil_append, List.append_assoc]
   rintro r rfl
   simp only [tt, seval, h5, h1, idxAt hx' Expr.row_len, i0, iL, iT, mkL_len, Expr.row_mk, Val.row, List.cons_append, List.nil_append, List.append_assoc]
   have ng8 : decide (k8 + (cnL cnExpr kids : Int) < 0) = false := decide_eq_false (by omega)
   have np8 : (k8 + (cnL cnExpr kids : Int) < 0) = False := eq_false (by omega)
   try simp only [tt, seval, ng8, np8, h5, h1, idxAt hx' Expr.row_len, i0, iL, iT, mkL_len, Expr.row_mk, Val.row, List.cons_append, List.nil_append, List.append_assoc]
   generalize hk9 : k8 + (cnL cnExpr kids : Int) = k9 at *
   refine call0 (Hsub (k9) (by omega) (by omega)) ?_ ?_ ?_
   ·decide
   ·simp only [tt, seval, h5, h1, idxAt hx' Expr.row_len, i0, iL, iT, mkL_len, Expr.row_mk, Val.row, List.cons_append, List.nil_append, List.append_assoc]
   rintro r rfl
   simp only [tt, seval, h5, h1, idxAt hx' Expr.row_len, i0, iL, iT, mkL_len, Expr.row_mk, Val.row, List.cons_append, List.nil_append, List.append_assoc]
   have ng9 : decide (k9 + (cnL cnQuery sub : Int) < 0) = false := decide_eq_false (by omega)
   have np9 : (k9 + (cnL cnQuery sub : Int) < 0) = False := eq_false (by omega)
   try simp only [tt, seval, ng9, np9, h5, h1, idxAt hx' Expr.row_len, i0, iL, iT, mkL_len, Expr.row_mk, Val.row, List.cons_append, List.nil_append, List.append_assoc]
   generalize hk10 : k9 + (cnL cnQuery sub : Int) = k10 at *
   rw [wrS i (by omega)]
   exact ⟨[], none, SubO.nil _, PoSub.none _, ⟨i + 1, rfl, viE (by rw [hks]; omega), by omega, rfl, rfl⟩, by simp only [ixS]; omega⟩
  ·have : i = es.length := by omega
   subst this
   rw [List.take_length] at h1
   refine ⟨_, _, ?_, end0 rfl⟩
   first | rfl | (rw [List.take_length]) | simp only [List.take_length]
set_option maxHeartbeats 8000000 in
theorem heldItems_step (es : List Item) (hx : ∀ e ∈ es, HdItem e) : HdC 61 Item.row mkItem cnItem es := by
 intro k h0 hk
 obtain ⟨ms, hms⟩ : ∃ ms, ms = mkL mkItem cnItem k es := ⟨_, rfl⟩
 have hml : es.length = ms.length := by rw [hms, mkL_len]
 rw [← hms, hml]
 refine cl_of_d follows_mixed false Tryz.func61 rfl (by kernel_rfl) ?_
 simp only [Tryz.f61, tt, seval]
 refine dLoop.intro (fun f L p => ∃ i : Nat, f 5 = vi i ∧ f 1 = vi (k + cnL cnItem (es.take i)) ∧ i ≤ ms.length ∧ L = [] ∧ p = none) (fun f _ _ => (ms.length - ixS (f 5)).toNat) [] none ⟨SubO.nil _, PoSub.none _, ?_⟩ ?_
 ·simp only [tt, seval]
  exact ⟨0, rfl, viE (by simp [cnL]), by omega⟩
 ·rintro g L p ⟨i, h5, h1, hi, rfl, rfl⟩
  simp only [tt, seval] at h5 h1
  simp only [tt, seval, h5, h1, Int.ofNat_lt]
  refine fun _ => And.intro (fun hlt => ?_) (fun hge => ?_)
  ·have hlt : i < ms.length := by omega
   have hlt' : i < es.length := by omega
   have hks := cnL_take_succ cnItem es i hlt'
   have hkl := cnL_take_le cnItem es (i + 1)
   have hx' : ms[i]? = some (mkItem (k + cnL cnItem (es.take i)) es[i]) := by rw [hms]; exact mkL_get _ _ _ _ _ hlt'
   generalize hk0 : k + (cnL cnItem (es.take i) : Int) = k0 at *
   have hxe := hx _ (List.getElem_mem hlt')
   obtain ⟨e, he⟩ : ∃ e, es[i] = e := ⟨_, rfl⟩
   rw [he] at hx' hks hxe
   obtain ⟨star, qual, ⟨e_kind, e_op, e_not, e_val, e_qual, e_name, e_kids, e_sub⟩, as_⟩ := e
   obtain ⟨He_kids, He_sub⟩ := hxe
   rw [cnItem_mk] at hks
   rw [mkItem_mk] at hx'
   have i0 : ((0 : Int) ≤ (i : Int)) = True := eq_true (by omega)
   have iL : ((i : Int) < (ms.length : Int)) = True := eq_true (by omega)
   have iT : (i < ms.length) = True := eq_true hlt
   simp only [tt, seval, h5, h1, idxAt hx' Item.row_len, i0, iL, iT, mkL_len, Item.row_mk, Expr.row_mk, Val.row, List.cons_append, List.nil_append, List.append_assoc]
   rw [wrap_id (n := k0 + 1) (by omega) (by omega)]
   generalize hk1 : k0 + 1 = k1 at *
   try simp only [tt, seval, h5, h1, idxAt hx' Item.row_len, i0, iL, iT, mkL_len, Item.row_mk, Expr.row_mk, Val.row, List.cons_append, List.nil_append, List.append_assoc]
   refine dDrawn.intro [] (pln [0, 2, 4, 6, 8, 10, 13, 14]) (by kernel_rfl) ?_
   simp only [tt, seval]
   all_goals try simp only [tt, seval, h5, h1, idxAt hx' Item.row_len, i0, iL, iT, mkL_len, Item.row_mk, Expr.row_mk, Val.row, List.cons_append, List.nil_append, List.append_assoc]
   refine call0 (markText_d (k1) (by omega)) ?_ ?_ ?_
   ·decide
   ·simp only [tt, seval, h5, h1, idxAt hx' Item.row_len, i0, iL, iT, mkL_len, Item.row_mk, Expr.row_mk, Val.row, List.cons_append, List.nil_append, List.append_assoc]
   rintro r rfl
   simp only [tt, seval, h5, h1, idxAt hx' Item.row_len, i0, iL, iT, mkL_len, Item.row_mk, Expr.row_mk, Val.row, List.cons_append, List.nil_append, List.append_assoc]
   rw [wrap_id (n := k1 + 1) (by omega) (by omega)]
   generalize hk2 : k1 + 1 = k2 at *
   try simp only [tt, seval, h5, h1, idxAt hx' Item.row_len, i0, iL, iT, mkL_len, Item.row_mk, Expr.row_mk, Val.row, List.cons_append, List.nil_append, List.append_assoc]
   rw [wrap_id (n := k2 + 1) (by omega) (by omega)]
   generalize hk3 : k2 + 1 = k3 at *
   try simp only [tt, seval, h5, h1, idxAt hx' Item.row_len, i0, iL, iT, mkL_len, Item.row_mk, Expr.row_mk, Val.row, List.cons_append, List.nil_append, List.append_assoc]
   rw [wrap_id (n := k3 + 1) (by omega) (by omega)]
   generalize hk4 : k3 + 1 = k4 at *
   try simp only [tt, seval, h5, h1, idxAt hx' Item.row_len, i0, iL, iT, mkL_len, Item.row_mk, Expr.row_mk, Val.row, List.cons_append, List.nil_append, List.append_assoc]
   rw [wrap_id (n := k4 + 1) (by omega) (by omega)]
   generalize hk5 : k4 + 1 = k5 at *
   try simp only [tt, seval, h5, h1, idxAt hx' Item.row_len, i0, iL, iT, mkL_len, Item.row_mk, Expr.row_mk, Val.row, List.cons_append, List.nil_append, List.append_assoc]
   rw [wrap_id (n := k5 + 1) (by omega) (by omega)]
   generalize hk6 : k5 + 1 = k6 at *
   try simp only [tt, seval, h5, h1, idxAt hx' Item.row_len, i0, iL, iT, mkL_len, Item.row_mk, Expr.row_mk, Val.row, List.cons_append, List.nil_append, List.append_assoc]
   rw [wrap_id (n := k6 + 1) (by omega) (by omega)]
   generalize hk7 : k6 + 1 = k7 at *
   try simp only [tt, seval, h5, h1, idxAt hx' Item.row_len, i0, iL, iT, mkL_len, Item.row_mk, Expr.row_mk, Val.row, List.cons_append, List.nil_append, List.append_assoc]
   refine dDrawn.intro [] (pln [0, 2, 4, 6, 8, 10, 12, 14, 17, 18]) (by kernel_rfl) ?_
   simp only [tt, seval]
   all_goals try simp only [tt, seval, h5, h1, idxAt hx' Item.row_len, i0, iL, iT, mkL_len, Item.row_mk, Expr.row_mk, Val.row, List.cons_append, List.nil_append, List.append_assoc]
   refine call0 (markText_d (k7) (by omega)) ?_ ?_ ?_
   ·decide
   ·simp only [tt, seval, h5, h1, idxAt hx' Item.row_len, i0, iL, iT, mkL_len, Item.row_mk, Expr.row_mk, Val.row, List.cons_append, List.nil_append, List.append_assoc]
   rintro r rfl
   simp only [tt, seval, h5, h1, idxAt hx' Item.row_len, i0, iL, iT, mkL_len, Item.row_mk, Expr.row_mk, Val.row, List.cons_append, List.nil_append, List.append_assoc]
   rw [wrap_id (n := k7 + 1) (by omega) (by omega)]
   generalize hk8 : k7 + 1 = k8 at *
   try simp only [tt, seval, h5, h1, idxAt hx' Item.row_len, i0, iL, iT, mkL_len, Item.row_mk, Expr.row_mk, Val.row, List.cons_append, List.nil_append, List.append_assoc]
   refine dDrawn.intro [] (pln [0, 2, 4, 6, 8, 10, 12, 15, 16]) (by kernel_rfl) ?_
   simp only [tt, seval]
   all_goals try simp only [tt, seval, h5, h1, idxAt hx' Item.row_len, i0, iL, iT, mkL_len, Item.row_mk, Expr.row_mk, Val.row, List.cons_append, List.nil_append, List.append_assoc]
   refine call0 (markText_d (k8) (by omega)) ?_ ?_ ?_
   ·decide
   ·simp only [tt, seval, h5, h1, idxAt hx' Item.row_len, i0, iL, iT, mkL_len, Item.row_mk, Expr.row_mk, Val.row, List.cons_append, List.nil_append, List.append_assoc]
   rintro r rfl
   simp only [tt, seval, h5, h1, idxAt hx' Item.row_len, i0, iL, iT, mkL_len, Item.row_mk, Expr.row_mk, Val.row, List.cons_append, List.nil_append, List.append_assoc]
   rw [wrap_id (n := k8 + 1) (by omega) (by omega)]
   generalize hk9 : k8 + 1 = k9 at *
   try simp only [tt, seval, h5, h1, idxAt hx' Item.row_len, i0, iL, iT, mkL_len, Item.row_mk, Expr.row_mk, Val.row, List.cons_append, List.nil_append, List.append_assoc]
   refine dDrawn.intro [] (pln [0, 2, 4, 6, 8, 10, 12, 15, 16]) (by kernel_rfl) ?_
   simp only [tt, seval]
   all_goals try simp only [tt, seval, h5, h1, idxAt hx' Item.row_len, i0, iL, iT, mkL_len, Item.row_mk, Expr.row_mk, Val.row, List.cons_append, List.nil_append, List.append_assoc]
   refine call0 (markText_d (k9) (by omega)) ?_ ?_ ?_
   ·decide
   ·simp only [tt, seval, h5, h1, idxAt hx' Item.row_len, i0, iL, iT, mkL_len, Item.row_mk, Expr.row_mk, Val.row, List.cons_append, List.nil_append, List.append_assoc]
   rintro r rfl
   simp only [tt, seval, h5, h1, idxAt hx' Item.row_len, i0, iL, iT, mkL_len, Item.row_mk, Expr.row_mk, Val.row, List.cons_append, List.nil_append, List.append_assoc]
   rw [wrap_id (n := k9 + 1) (by omega) (by omega)]
   generalize hk10 : k9 + 1 = k10 at *
   try simp only [tt, seval, h5, h1, idxAt hx' Item.row_len, i0, iL, iT, mkL_len, Item.row_mk, Expr.row_mk, Val.row, List.cons_append, List.nil_append, List.append_assoc]
   refine call0 (He_kids (k10) (by omega) (by omega)) ?_ ?_ ?_
   ·decide
   ·simp only [tt, seval, h5, h1, idxAt hx' Item.row_len, i0, iL, iT, mkL_len, Item.row_mk, Expr.row_mk, Val.row, List.cons_append, List.nil_append, List.append_assoc]
   rintro r rfl
   simp only [tt, seval, h5, h1, idxAt hx' Item.row_len, i0, iL, iT, mkL_len, Item.row_mk, Expr.row_mk, Val.row, List.cons_append, List.nil_append, List.append_assoc]
   have ng10 : decide (k10 + (cnL cnExpr e_kids : Int) < 0) = false := decide_eq_false (by omega)
   have np10 : (k10 + (cnL cnExpr e_kids : Int) < 0) = False := eq_false (by omega)
   try simp only [tt, seval, ng10, np10, h5, h1, idxAt hx' Item.row_len, i0, iL, iT, mkL_len, Item.row_mk, Expr.row_mk, Val.row, List.cons_append, List.nil_append, List.append_assoc]
   generalize hk11 : k10 + (cnL cnExpr e_kids : Int) = k11 at *
   refine call0 (He_sub (k11) (by omega) (by omega)) ?_ ?_ ?_
   ·decide
   ·simp only [tt, seval, h5, h1, idxAt hx' Item.row_len, i0, iL, iT, mkL_len, Item.row_mk, Expr.row_mk, Val.row, List.cons_append, List.nil_append, List.append_assoc]
   rintro r rfl
   simp only [tt, seval, h5, h1, idxAt hx' Item.row_len, i0, iL, iT, mkL_len, Item.row_mk, Expr.row_mk, Val.row, List.cons_append, List.nil_append, List.append_assoc]
   have ng11 : decide (k11 + (cnL cnQuery e_sub : Int) < 0) = false := decide_eq_false (by omega)
   have np11 : (k11 + (cnL cnQuery e_sub : Int) < 0) = False := eq_false (by omega)
   try simp only [tt, seval, ng11, np11, h5, h1, idxAt hx' Item.row_len, i0, iL, iT, mkL_len, Item.row_mk, Expr.row_mk, Val.row, List.cons_append, List.nil_append, List.append_assoc]
   generalize hk12 : k11 + (cnL cnQuery e_sub : Int) = k12 at *
   refine dDrawn.intro [] (pln [0, 2, 4, 6, 8, 10, 13, 14]) (by kernel_rfl) ?_
   simp only [tt, seval]
   all_goals try simp only [tt, seval, h5, h1, idxAt hx' Item.row_len, i0, iL, iT, mkL_len, Item.row_mk, Expr.row_mk, Val.row, List.cons_append, List.nil_append, List.append_assoc]
   refine call0 (markText_d (k12) (by omega)) ?_ ?_ ?_
   ·decide
   ·simp only [tt, seval, h5, h1, idxAt hx' Item.row_len, i0, iL, iT, mkL_len, Item.row_mk, Expr.row_mk, Val.row, List.cons_append, List.nil_append, List.append_assoc]
   rintro r rfl
   simp only [tt, seval, h5, h1, idxAt hx' Item.row_len, i0, iL, iT, mkL_len, Item.row_mk, Expr.row_mk, Val.row, List.cons_append, List.nil_append, List.append_assoc]
   rw [wrap_id (n := k12 + 1) (by omega) (by omega)]
   generalize hk13 : k12 + 1 = k13 at *
   try simp only [tt, seval, h5, h1, idxAt hx' Item.row_len, i0, iL, iT, mkL_len, Item.row_mk, Expr.row_mk, Val.row, List.cons_append, List.nil_append, List.append_assoc]
   rw [wrS i (by omega)]
   exact ⟨[], none, SubO.nil _, PoSub.none _, ⟨i + 1, rfl, viE (by rw [hks]; omega), by omega, rfl, rfl⟩, by simp only [ixS]; omega⟩
  ·have : i = es.length := by omega
   subst this
   rw [List.take_length] at h1
   refine ⟨_, _, ?_, end0 rfl⟩
   first | rfl | (rw [List.take_length]) | simp only [List.take_length]
set_option maxHeartbeats 8000000 in
theorem heldQuerys_step (es : List Query) (hx : ∀ e ∈ es, HdQuery e) : HdC 52 Query.row mkQuery cnQuery es := by
 intro k h0 hk
 obtain ⟨ms, hms⟩ : ∃ ms, ms = mkL mkQuery cnQuery k es := ⟨_, rfl⟩
 have hml : es.length = ms.length := by rw [hms, mkL_len]
 rw [← hms, hml]
 refine cl_of_d follows_mixed false Tryz.func52 rfl (by kernel_rfl) ?_
 simp only [Tryz.f52, tt, seval]
 refine dLoop.intro (fun f L p => ∃ i : Nat, f 5 = vi i ∧ f 1 = vi (k + cnL cnQuery (es.take i)) ∧ i ≤ ms.length ∧ L = [] ∧ p = none) (fun f _ _ => (ms.length - ixS (f 5)).toNat) [] none ⟨SubO.nil _, PoSub.none _, ?_⟩ ?_
 ·simp only [tt, seval]
  exact ⟨0, rfl, viE (by simp [cnL]), by omega⟩
 ·rintro g L p ⟨i, h5, h1, hi, rfl, rfl⟩
  simp only [tt, seval] at h5 h1
  simp only [tt, seval, h5, h1, Int.ofNat_lt]
  refine fun _ => And.intro (fun hlt => ?_) (fun hge => ?_)
  ·have hlt : i < ms.length := by omega
   have hlt' : i < es.length := by omega
   have hks := cnL_take_succ cnQuery es i hlt'
   have hkl := cnL_take_le cnQuery es (i + 1)
   have hx' : ms[i]? = some (mkQuery (k + cnL cnQuery (es.take i)) es[i]) := by rw [hms]; exact mkL_get _ _ _ _ _ hlt'
   generalize hk0 : k + (cnL cnQuery (es.take i) : Int) = k0 at *
   have hxe := hx _ (List.getElem_mem hlt')
   obtain ⟨e, he⟩ : ∃ e, es[i] = e := ⟨_, rfl⟩
   rw [he] at hx' hks hxe
   obtain ⟨distinct, items, from_, where_, order, limit⟩ := e
   obtain ⟨Hitems, Hfrom_, Hwhere_, Horder⟩ := hxe
   rw [cnQuery_mk] at hks
   rw [mkQuery_mk] at hx'
   have i0 : ((0 : Int) ≤ (i : Int)) = True := eq_true (by omega)
   have iL : ((i : Int) < (ms.length : Int)) = True := eq_true (by omega)
   have iT : (i < ms.length) = True := eq_true hlt
   simp only [tt, seval, h5, h1, idxAt hx' Query.row_len, i0, iL, iT, mkL_len, Query.row_mk, Val.row, List.cons_append, List.nil_append, List.append_assoc]
   rw [wrap_id (n := k0 + 1) (by omega) (by omega)]
   generalize hk1 : k0 + 1 = k1 at *
   try simp only [tt, seval, h5, h1, idxAt hx' Query.row_len, i0, iL, iT, mkL_len, Query.row_mk, Val.row, List.cons_append, List.nil_append, List.append_assoc]
   refine call0 (Hitems (k1) (by omega) (by omega)) ?_ ?_ ?_
   ·decide
   ·simp only [tt, seval, h5, h1, idxAt hx' Query.row_len, i0, iL, iT, mkL_len, Query.row_mk, Val.row, List.cons_append, List.nil_append, List.append_assoc]
   rintro r rfl
   simp only [tt, seval, h5, h1, idxAt hx' Query.row_len, i0, iL, iT, mkL_len, Query.row_mk, Val.row, List.cons_append, List.nil_append, List.append_assoc]
   have ng1 : decide (k1 + (cnL cnItem items : Int) < 0) = false := decide_eq_false (by omega)
   have np1 : (k1 + (cnL cnItem items : Int) < 0) = False := eq_false (by omega)
   try simp only [tt, seval, ng1, np1, h5, h1, idxAt hx' Query.row_len, i0, iL, iT, mkL_len, Query.row_mk, Val.row, List.cons_append, List.nil_append, List.append_assoc]
   generalize hk2 : k1 + (cnL cnItem items : Int) = k2 at *
   refine call0 (Hfrom_ (k2) (by omega) (by omega)) ?_ ?_ ?_
   ·decide
   ·simp only [tt, seval, h5, h1, idxAt hx' Query.row_len, i0, iL, iT, mkL_len, Query.row_mk, Val.row, List.cons_append, List.nil_append, List.append_assoc]
   rintro r rfl
   simp only [tt, seval, h5, h1, idxAt hx' Query.row_len, i0, iL, iT, mkL_len, Query.row_mk, Val.row, List.cons_append, List.nil_append, List.append_assoc]
   have ng2 : decide (k2 + (cnL cnSource from_ : Int) < 0) = false := decide_eq_false (by omega)
   have np2 : (k2 + (cnL cnSource from_ : Int) < 0) = False := eq_false (by omega)
   try simp only [tt, seval, ng2, np2, h5, h1, idxAt hx' Query.row_len, i0, iL, iT, mkL_len, Query.row_mk, Val.row, List.cons_append, List.nil_append, List.append_assoc]
   generalize hk3 : k2 + (cnL cnSource from_ : Int) = k3 at *
   refine call0 (Hwhere_ (k3) (by omega) (by omega)) ?_ ?_ ?_
   ·decide
   ·simp only [tt, seval, h5, h1, idxAt hx' Query.row_len, i0, iL, iT, mkL_len, Query.row_mk, Val.row, List.cons_append, List.nil_append, List.append_assoc]
   rintro r rfl
   simp only [tt, seval, h5, h1, idxAt hx' Query.row_len, i0, iL, iT, mkL_len, Query.row_mk, Val.row, List.cons_append, List.nil_append, List.append_assoc]
   have ng3 : decide (k3 + (cnL cnExpr where_ : Int) < 0) = false := decide_eq_false (by omega)
   have np3 : (k3 + (cnL cnExpr where_ : Int) < 0) = False := eq_false (by omega)
   try simp only [tt, seval, ng3, np3, h5, h1, idxAt hx' Query.row_len, i0, iL, iT, mkL_len, Query.row_mk, Val.row, List.cons_append, List.nil_append, List.append_assoc]
   generalize hk4 : k3 + (cnL cnExpr where_ : Int) = k4 at *
   refine call0 (Horder (k4) (by omega) (by omega)) ?_ ?_ ?_
   ·decide
   ·simp only [tt, seval, h5, h1, idxAt hx' Query.row_len, i0, iL, iT, mkL_len, Query.row_mk, Val.row, List.cons_append, List.nil_append, List.append_assoc]
   rintro r rfl
   simp only [tt, seval, h5, h1, idxAt hx' Query.row_len, i0, iL, iT, mkL_len, Query.row_mk, Val.row, List.cons_append, List.nil_append, List.append_assoc]
   have ng4 : decide (k4 + (cnL cnSortKey order : Int) < 0) = false := decide_eq_false (by omega)
   have np4 : (k4 + (cnL cnSortKey order : Int) < 0) = False := eq_false (by omega)
   try simp only [tt, seval, ng4, np4, h5, h1, idxAt hx' Query.row_len, i0, iL, iT, mkL_len, Query.row_mk, Val.row, List.cons_append, List.nil_append, List.append_assoc]
   generalize hk5 : k4 + (cnL cnSortKey order : Int) = k5 at *
   rw [wrap_id (n := k5 + 1) (by omega) (by omega)]
   generalize hk6 : k5 + 1 = k6 at *
   try simp only [tt, seval, h5, h1, idxAt hx' Query.row_len, i0, iL, iT, mkL_len, Query.row_mk, Val.row, List.cons_append, List.nil_append, List.append_assoc]
   rw [wrS i (by omega)]
   exact ⟨[], none, SubO.nil _, PoSub.none _, ⟨i + 1, rfl, viE (by rw [hks]; omega), by omega, rfl, rfl⟩, by simp only [ixS]; omega⟩
  ·have : i = es.length := by omega
   subst this
   rw [List.take_length] at h1
   refine ⟨_, _, ?_, end0 rfl⟩
   first | rfl | (rw [List.take_length]) | simp only [List.take_length]
set_option maxHeartbeats 8000000 in
theorem heldSortKeys_step (es : List SortKey) (hx : ∀ e ∈ es, HdSortKey e) : HdC 63 SortKey.row mkSortKey cnSortKey es := by
 intro k h0 hk
 obtain ⟨ms, hms⟩ : ∃ ms, ms = mkL mkSortKey cnSortKey k es := ⟨_, rfl⟩
 have hml : es.length = ms.length := by rw [hms, mkL_len]
 rw [← hms, hml]
 refine cl_of_d follows_mixed false Tryz.func63 rfl (by kernel_rfl) ?_
 simp only [Tryz.f63, tt, seval]
 refine dLoop.intro (fun f L p => ∃ i : Nat, f 5 = vi i ∧ f 1 = vi (k + cnL cnSortKey (es.take i)) ∧ i ≤ ms.length ∧ L = [] ∧ p = none) (fun f _ _ => (ms.length - ixS (f 5)).toNat) [] none ⟨SubO.nil _, PoSub.none _, ?_⟩ ?_
 ·simp only [tt, seval]
  exact ⟨0, rfl, viE (by simp [cnL]), by omega⟩
 ·rintro g L p ⟨i, h5, h1, hi, rfl, rfl⟩
  simp only [tt, seval] at h5 h1
  simp only [tt, seval, h5, h1, Int.ofNat_lt]
  refine fun _ => And.intro (fun hlt => ?_) (fun hge => ?_)
  ·have hlt : i < ms.length := by omega
   have hlt' : i < es.length := by omega
   have hks := cnL_take_succ cnSortKey es i hlt'
   have hkl := cnL_take_le cnSortKey es (i + 1)
   have hx' : ms[i]? = some (mkSortKey (k + cnL cnSortKey (es.take i)) es[i]) := by rw [hms]; exact mkL_get _ _ _ _ _ hlt'
   generalize hk0 : k + (cnL cnSortKey (es.take i) : Int) = k0 at *
   have hxe := hx _ (List.getElem_mem hlt')
   obtain ⟨e, he⟩ : ∃ e, es[i] = e := ⟨_, rfl⟩
   rw [he] at hx' hks hxe
   obtain ⟨⟨e_kind, e_op, e_not, e_val, e_qual, e_name, e_kids, e_sub⟩, desc⟩ := e
   obtain ⟨He_kids, He_sub⟩ := hxe
   rw [cnSortKey_mk] at hks
   rw [mkSortKey_mk] at hx'
   have i0 : ((0 : Int) ≤ (i : Int)) = True := eq_true (by omega)
   have iL : ((i : Int) < (ms.length : Int)) = True := eq_true (by omega)
   have iT : (i < ms.length) = True := eq_true hlt
   simp only [tt, seval, h5, h1, idxAt hx' SortKey.row_len, i0, iL, iT, mkL_len, SortKey.row_mk, Expr.row_mk, Val.row, List.cons_append, List.nil_append, List.append_assoc]
   rw [wrap_id (n := k0 + 1) (by omega) (by omega)]
   generalize hk1 : k0 + 1 = k1 at *
   try simp only [tt, seval, h5, h1, idxAt hx' SortKey.row_len, i0, iL, iT, mkL_len, SortKey.row_mk, Expr.row_mk, Val.row, List.cons_append, List.nil_append, List.append_assoc]
   rw [wrap_id (n := k1 + 1) (by omega) (by omega)]
   generalize hk2 : k1 + 1 = k2 at *
   try simp only [tt, seval, h5, h1, idxAt hx' SortKey.row_len, i0, iL, iT, mkL_len, SortKey.row_mk, Expr.row_mk, Val.row, List.cons_append, List.nil_append, List.append_assoc]
   rw [wrap_id (n := k2 + 1) (by omega) (by omega)]
   generalize hk3 : k2 + 1 = k3 at *
   try simp only [tt, seval, h5, h1, idxAt hx' SortKey.row_len, i0, iL, iT, mkL_len, SortKey.row_mk, Expr.row_mk, Val.row, List.cons_append, List.nil_append, List.append_assoc]
   rw [wrap_id (n := k3 + 1) (by omega) (by omega)]
   generalize hk4 : k3 + 1 = k4 at *
   try simp only [tt, seval, h5, h1, idxAt hx' SortKey.row_len, i0, iL, iT, mkL_len, SortKey.row_mk, Expr.row_mk, Val.row, List.cons_append, List.nil_append, List.append_assoc]
   rw [wrap_id (n := k4 + 1) (by omega) (by omega)]
   generalize hk5 : k4 + 1 = k5 at *
   try simp only [tt, seval, h5, h1, idxAt hx' SortKey.row_len, i0, iL, iT, mkL_len, SortKey.row_mk, Expr.row_mk, Val.row, List.cons_append, List.nil_append, List.append_assoc]
   refine dDrawn.intro [] (pln [0, 2, 4, 6, 8, 10, 12, 14, 17, 18]) (by kernel_rfl) ?_
   simp only [tt, seval]
   all_goals try simp only [tt, seval, h5, h1, idxAt hx' SortKey.row_len, i0, iL, iT, mkL_len, SortKey.row_mk, Expr.row_mk, Val.row, List.cons_append, List.nil_append, List.append_assoc]
   refine call0 (markText_d (k5) (by omega)) ?_ ?_ ?_
   ·decide
   ·simp only [tt, seval, h5, h1, idxAt hx' SortKey.row_len, i0, iL, iT, mkL_len, SortKey.row_mk, Expr.row_mk, Val.row, List.cons_append, List.nil_append, List.append_assoc]
   rintro r rfl
   simp only [tt, seval, h5, h1, idxAt hx' SortKey.row_len, i0, iL, iT, mkL_len, SortKey.row_mk, Expr.row_mk, Val.row, List.cons_append, List.nil_append, List.append_assoc]
   rw [wrap_id (n := k5 + 1) (by omega) (by omega)]
   generalize hk6 : k5 + 1 = k6 at *
   try simp only [tt, seval, h5, h1, idxAt hx' SortKey.row_len, i0, iL, iT, mkL_len, SortKey.row_mk, Expr.row_mk, Val.row, List.cons_append, List.nil_append, List.append_assoc]
   refine dDrawn.intro [] (pln [0, 2, 4, 6, 8, 10, 12, 15, 16]) (by kernel_rfl) ?_
   simp only [tt, seval]
   all_goals try simp only [tt, seval, h5, h1, idxAt hx' SortKey.row_len, i0, iL, iT, mkL_len, SortKey.row_mk, Expr.row_mk, Val.row, List.cons_append, List.nil_append, List.append_assoc]
   refine call0 (markText_d (k6) (by omega)) ?_ ?_ ?_
   ·decide
   ·simp only [tt, seval, h5, h1, idxAt hx' SortKey.row_len, i0, iL, iT, mkL_len, SortKey.row_mk, Expr.row_mk, Val.row, List.cons_append, List.nil_append, List.append_assoc]
   rintro r rfl
   simp only [tt, seval, h5, h1, idxAt hx' SortKey.row_len, i0, iL, iT, mkL_len, SortKey.row_mk, Expr.row_mk, Val.row, List.cons_append, List.nil_append, List.append_assoc]
   rw [wrap_id (n := k6 + 1) (by omega) (by omega)]
   generalize hk7 : k6 + 1 = k7 at *
   try simp only [tt, seval, h5, h1, idxAt hx' SortKey.row_len, i0, iL, iT, mkL_len, SortKey.row_mk, Expr.row_mk, Val.row, List.cons_append, List.nil_append, List.append_assoc]
   refine dDrawn.intro [] (pln [0, 2, 4, 6, 8, 10, 12, 15, 16]) (by kernel_rfl) ?_
   simp only [tt, seval]
   all_goals try simp only [tt, seval, h5, h1, idxAt hx' SortKey.row_len, i0, iL, iT, mkL_len, SortKey.row_mk, Expr.row_mk, Val.row, List.cons_append, List.nil_append, List.append_assoc]
   refine call0 (markText_d (k7) (by omega)) ?_ ?_ ?_
   ·decide
   ·simp only [tt, seval, h5, h1, idxAt hx' SortKey.row_len, i0, iL, iT, mkL_len, SortKey.row_mk, Expr.row_mk, Val.row, List.cons_append, List.nil_append, List.append_assoc]
   rintro r rfl
   simp only [tt, seval, h5, h1, idxAt hx' SortKey.row_len, i0, iL, iT, mkL_len, SortKey.row_mk, Expr.row_mk, Val.row, List.cons_append, List.nil_append, List.append_assoc]
   rw [wrap_id (n := k7 + 1) (by omega) (by omega)]
   generalize hk8 : k7 + 1 = k8 at *
   try simp only [tt, seval, h5, h1, idxAt hx' SortKey.row_len, i0, iL, iT, mkL_len, SortKey.row_mk, Expr.row_mk, Val.row, List.cons_append, List.nil_append, List.append_assoc]
   refine call0 (He_kids (k8) (by omega) (by omega)) ?_ ?_ ?_
   ·decide
   ·simp only [tt, seval, h5, h1, idxAt hx' SortKey.row_len, i0, iL, iT, mkL_len, SortKey.row_mk, Expr.row_mk, Val.row, List.cons_append, List.nil_append, List.append_assoc]
   rintro r rfl
   simp only [tt, seval, h5, h1, idxAt hx' SortKey.row_len, i0, iL, iT, mkL_len, SortKey.row_mk, Expr.row_mk, Val.row, List.cons_append, List.nil_append, List.append_assoc]
   have ng8 : decide (k8 + (cnL cnExpr e_kids : Int) < 0) = false := decide_eq_false (by omega)
   have np8 : (k8 + (cnL cnExpr e_kids : Int) < 0) = False := eq_false (by omega)
   try simp only [tt, seval, ng8, np8, h5, h1, idxAt hx' SortKey.row_len, i0, iL, iT, mkL_len, SortKey.row_mk, Expr.row_mk, Val.row, List.cons_append, List.nil_append, List.append_assoc]
   generalize hk9 : k8 + (cnL cnExpr e_kids : Int) = k9 at *
   refine call0 (He_sub (k9) (by omega) (by omega)) ?_ ?_ ?_
   ·decide
   ·simp only [tt, seval, h5, h1, idxAt hx' SortKey.row_len, i0, iL, iT, mkL_len, SortKey.row_mk, Expr.row_mk, Val.row, List.cons_append, List.nil_append, List.append_assoc]
   rintro r rfl
   simp only [tt, seval, h5, h1, idxAt hx' SortKey.row_len, i0, iL, iT, mkL_len, SortKey.row_mk, Expr.row_mk, Val.row, List.cons_append, List.nil_append, List.append_assoc]
   have ng9 : decide (k9 + (cnL cnQuery e_sub : Int) < 0) = false := decide_eq_false (by omega)
   have np9 : (k9 + (cnL cnQuery e_sub : Int) < 0) = False := eq_false (by omega)
   try simp only [tt, seval, ng9, np9, h5, h1, idxAt hx' SortKey.row_len, i0, iL, iT, mkL_len, SortKey.row_mk, Expr.row_mk, Val.row, List.cons_append, List.nil_append, List.append_assoc]
   generalize hk10 : k9 + (cnL cnQuery e_sub : Int) = k10 at *
   rw [wrap_id (n := k10 + 1) (by omega) (by omega)]
   generalize hk11 : k10 + 1 = k11 at *
   try simp only [tt, seval, h5, h1, idxAt hx' SortKey.row_len, i0, iL, iT, mkL_len, SortKey.row_mk, Expr.row_mk, Val.row, List.cons_append, List.nil_append, List.append_assoc]
   rw [wrS i (by omega)]
   exact ⟨[], none, SubO.nil _, PoSub.none _, ⟨i + 1, rfl, viE (by rw [hks]; omega), by omega, rfl, rfl⟩, by simp only [ixS]; omega⟩
  ·have : i = es.length := by omega
   subst this
   rw [List.take_length] at h1
   refine ⟨_, _, ?_, end0 rfl⟩
   first | rfl | (rw [List.take_length]) | simp only [List.take_length]
set_option maxHeartbeats 8000000 in
theorem heldSources_step (es : List Source) (hx : ∀ e ∈ es, HdSource e) : HdC 62 Source.row mkSource cnSource es := by
 intro k h0 hk
 obtain ⟨ms, hms⟩ : ∃ ms, ms = mkL mkSource cnSource k es := ⟨_, rfl⟩
 have hml : es.length = ms.length := by rw [hms, mkL_len]
 rw [← hms, hml]
 refine cl_of_d follows_mixed false Tryz.func62 rfl (by kernel_rfl) ?_
 simp only [Tryz.f62, tt, seval]
 refine dLoop.intro (fun f L p => ∃ i : Nat, f 5 = vi i ∧ f 1 = vi (k + cnL cnSource (es.take i)) ∧ i ≤ ms.length ∧ L = [] ∧ p = none) (fun f _ _ => (ms.length - ixS (f 5)).toNat) [] none ⟨SubO.nil _, PoSub.none _, ?_⟩ ?_
 ·simp only [tt, seval]
  exact ⟨0, rfl, viE (by simp [cnL]), by omega⟩
 ·rintro g L p ⟨i, h5, h1, hi, rfl, rfl⟩
  simp only [tt, seval] at h5 h1
  simp only [tt, seval, h5, h1, Int.ofNat_lt]
  refine fun _ => And.intro (fun hlt => ?_) (fun hge => ?_)
  ·have hlt : i < ms.length := by omega
   have hlt' : i < es.length := by omega
   have hks := cnL_take_succ cnSource es i hlt'
   have hkl := cnL_take_le cnSource es (i + 1)
   have hx' : ms[i]? = some (mkSource (k + cnL cnSource (es.take i)) es[i]) := by rw [hms]; exact mkL_get _ _ _ _ _ hlt'
   generalize hk0 : k + (cnL cnSource (es.take i) : Int) = k0 at *
   have hxe := hx _ (List.getElem_mem hlt')
   obtain ⟨e, he⟩ : ∃ e, es[i] = e := ⟨_, rfl⟩
   rw [he] at hx' hks hxe
   obtain ⟨table, as_, on⟩ := e
   have Hon := hxe
   rw [cnSource_mk] at hks
   rw [mkSource_mk] at hx'
   have i0 : ((0 : Int) ≤ (i : Int)) = True := eq_true (by omega)
   have iL : ((i : Int) < (ms.length : Int)) = True := eq_true (by omega)
   have iT : (i < ms.length) = True := eq_true hlt
   simp only [tt, seval, h5, h1, idxAt hx' Source.row_len, i0, iL, iT, mkL_len, Source.row_mk, Val.row, List.cons_append, List.nil_append, List.append_assoc]
   refine dDrawn.intro [] (pln [0, 2, 4, 6, 8, 10, 13, 14]) (by kernel_rfl) ?_
   simp only [tt, seval]
   all_goals try simp only [tt, seval, h5, h1, idxAt hx' Source.row_len, i0, iL, iT, mkL_len, Source.row_mk, Val.row, List.cons_append, List.nil_append, List.append_assoc]
   refine call0 (markText_d (k0) (by omega)) ?_ ?_ ?_
   ·decide
   ·simp only [tt, seval, h5, h1, idxAt hx' Source.row_len, i0, iL, iT, mkL_len, Source.row_mk, Val.row, List.cons_append, List.nil_append, List.append_assoc]
   rintro r rfl
   simp only [tt, seval, h5, h1, idxAt hx' Source.row_len, i0, iL, iT, mkL_len, Source.row_mk, Val.row, List.cons_append, List.nil_append, List.append_assoc]
   rw [wrap_id (n := k0 + 1) (by omega) (by omega)]
   generalize hk1 : k0 + 1 = k1 at *
   try simp only [tt, seval, h5, h1, idxAt hx' Source.row_len, i0, iL, iT, mkL_len, Source.row_mk, Val.row, List.cons_append, List.nil_append, List.append_assoc]
   refine dDrawn.intro [] (pln [0, 2, 4, 6, 8, 10, 13, 14]) (by kernel_rfl) ?_
   simp only [tt, seval]
   all_goals try simp only [tt, seval, h5, h1, idxAt hx' Source.row_len, i0, iL, iT, mkL_len, Source.row_mk, Val.row, List.cons_append, List.nil_append, List.append_assoc]
   refine call0 (markText_d (k1) (by omega)) ?_ ?_ ?_
   ·decide
   ·simp only [tt, seval, h5, h1, idxAt hx' Source.row_len, i0, iL, iT, mkL_len, Source.row_mk, Val.row, List.cons_append, List.nil_append, List.append_assoc]
   rintro r rfl
   simp only [tt, seval, h5, h1, idxAt hx' Source.row_len, i0, iL, iT, mkL_len, Source.row_mk, Val.row, List.cons_append, List.nil_append, List.append_assoc]
   rw [wrap_id (n := k1 + 1) (by omega) (by omega)]
   generalize hk2 : k1 + 1 = k2 at *
   try simp only [tt, seval, h5, h1, idxAt hx' Source.row_len, i0, iL, iT, mkL_len, Source.row_mk, Val.row, List.cons_append, List.nil_append, List.append_assoc]
   refine call0 (Hon (k2) (by omega) (by omega)) ?_ ?_ ?_
   ·decide
   ·simp only [tt, seval, h5, h1, idxAt hx' Source.row_len, i0, iL, iT, mkL_len, Source.row_mk, Val.row, List.cons_append, List.nil_append, List.append_assoc]
   rintro r rfl
   simp only [tt, seval, h5, h1, idxAt hx' Source.row_len, i0, iL, iT, mkL_len, Source.row_mk, Val.row, List.cons_append, List.nil_append, List.append_assoc]
   have ng2 : decide (k2 + (cnL cnExpr on : Int) < 0) = false := decide_eq_false (by omega)
   have np2 : (k2 + (cnL cnExpr on : Int) < 0) = False := eq_false (by omega)
   try simp only [tt, seval, ng2, np2, h5, h1, idxAt hx' Source.row_len, i0, iL, iT, mkL_len, Source.row_mk, Val.row, List.cons_append, List.nil_append, List.append_assoc]
   generalize hk3 : k2 + (cnL cnExpr on : Int) = k3 at *
   rw [wrS i (by omega)]
   exact ⟨[], none, SubO.nil _, PoSub.none _, ⟨i + 1, rfl, viE (by rw [hks]; omega), by omega, rfl, rfl⟩, by simp only [ixS]; omega⟩
  ·have : i = es.length := by omega
   subst this
   rw [List.take_length] at h1
   refine ⟨_, _, ?_, end0 rfl⟩
   first | rfl | (rw [List.take_length]) | simp only [List.take_length]
theorem hdExpr_all : (∀ a : Expr, HdExpr a) ∧ (∀ a : Item, HdItem a) ∧ (∀ a : Source, HdSource a) ∧ (∀ a : SortKey, HdSortKey a) ∧ (∀ a : Query, HdQuery a) := by
 refine Expr.ind ?_ ?_ ?_ ?_ ?_
 ·intro kind op not val qual name kids sub hkids hsub
  exact ⟨heldExprs_step _ hkids, heldQuerys_step _ hsub⟩
 ·intro star qual e as_ he
  exact he
 ·intro table as_ on hon
  exact heldExprs_step _ hon
 ·intro e desc he
  exact he
 ·intro distinct items from_ where_ order limit hitems hfrom_ hwhere_ horder
  exact ⟨heldItems_step _ hitems, heldSources_step _ hfrom_, heldExprs_step _ hwhere_, heldSortKeys_step _ horder⟩
theorem heldExprs_d (es : List Expr) : HdC 51 Expr.row mkExpr cnExpr es := heldExprs_step es (fun e _ => hdExpr_all.1 e)
theorem heldItems_d (es : List Item) : HdC 61 Item.row mkItem cnItem es := heldItems_step es (fun e _ => hdExpr_all.2.1 e)
theorem heldSortKeys_d (es : List SortKey) : HdC 63 SortKey.row mkSortKey cnSortKey es := heldSortKeys_step es (fun e _ => hdExpr_all.2.2.2.1 e)
theorem heldSources_d (es : List Source) : HdC 62 Source.row mkSource cnSource es := heldSources_step es (fun e _ => hdExpr_all.2.2.1 e)
theorem heldQuery_d (distinct : Bool) (items : List Item) (from_ : List Source) (where_ : List Expr) (order : List SortKey) (limit : Int) (q : Int) (h0 : 0 ≤ q) (h1 : q + (cnL cnItem items : Int) + (cnL cnSource from_ : Int) + (cnL cnExpr where_ : Int) + (cnL cnSortKey order : Int) ≤ 4611686018427387904) : Cl Tryz.prog 23 [.ag (csOf (Query.mk distinct (mkL mkItem cnItem (q) items) (mkL mkSource cnSource (q + (cnL cnItem items : Int)) from_) (mkL mkExpr cnExpr (q + (cnL cnItem items : Int) + (cnL cnSource from_ : Int)) where_) (mkL mkSortKey cnSortKey (q + (cnL cnItem items : Int) + (cnL cnSource from_ : Int) + (cnL cnExpr where_ : Int)) order) limit).row), vi q] [] fun r _ => r = vi (q + (cnL cnItem items : Int) + (cnL cnSource from_ : Int) + (cnL cnExpr where_ : Int) + (cnL cnSortKey order : Int)) := by
 simp only [List.cons_append, List.nil_append, Query.row_mk, Val.row, mkL_len]
 refine cl_of_d follows_mixed false Tryz.func23 rfl (by kernel_rfl) ?_
 simp only [Tryz.f23, tt, seval]
 refine call0 (heldItems_d items (q) (by omega) (by omega)) ?_ ?_ ?_
 ·decide
 ·simp only [tt, seval, List.cons_append, List.nil_append, Query.row_mk, Val.row, mkL_len]
 rintro r rfl
 simp only [tt, seval, List.cons_append, List.nil_append, Query.row_mk, Val.row, mkL_len]
 have ng0 : decide (q + (cnL cnItem items : Int) < 0) = false := decide_eq_false (by omega)
 have np0 : (q + (cnL cnItem items : Int) < 0) = False := eq_false (by omega)
 try simp only [tt, seval, ng0, np0, List.cons_append, List.nil_append, Query.row_mk, Val.row, mkL_len]
 refine call0 (heldSources_d from_ (q + (cnL cnItem items : Int)) (by omega) (by omega)) ?_ ?_ ?_
 ·decide
 ·simp only [tt, seval, List.cons_append, List.nil_append, Query.row_mk, Val.row, mkL_len]
 rintro r rfl
 simp only [tt, seval, List.cons_append, List.nil_append, Query.row_mk, Val.row, mkL_len]
 have ng1 : decide (q + (cnL cnItem items : Int) + (cnL cnSource from_ : Int) < 0) = false := decide_eq_false (by omega)
 have np1 : (q + (cnL cnItem items : Int) + (cnL cnSource from_ : Int) < 0) = False := eq_false (by omega)
 try simp only [tt, seval, ng1, np1, List.cons_append, List.nil_append, Query.row_mk, Val.row, mkL_len]
 refine call0 (heldExprs_d where_ (q + (cnL cnItem items : Int) + (cnL cnSource from_ : Int)) (by omega) (by omega)) ?_ ?_ ?_
 ·decide
 ·simp only [tt, seval, List.cons_append, List.nil_append, Query.row_mk, Val.row, mkL_len]
 rintro r rfl
 simp only [tt, seval, List.cons_append, List.nil_append, Query.row_mk, Val.row, mkL_len]
 have ng2 : decide (q + (cnL cnItem items : Int) + (cnL cnSource from_ : Int) + (cnL cnExpr where_ : Int) < 0) = false := decide_eq_false (by omega)
 have np2 : (q + (cnL cnItem items : Int) + (cnL cnSource from_ : Int) + (cnL cnExpr where_ : Int) < 0) = False := eq_false (by omega)
 try simp only [tt, seval, ng2, np2, List.cons_append, List.nil_append, Query.row_mk, Val.row, mkL_len]
 refine call0 (heldSortKeys_d order (q + (cnL cnItem items : Int) + (cnL cnSource from_ : Int) + (cnL cnExpr where_ : Int)) (by omega) (by omega)) ?_ ?_ ?_
 ·decide
 ·simp only [tt, seval, List.cons_append, List.nil_append, Query.row_mk, Val.row, mkL_len]
 rintro r rfl
 simp only [tt, seval, List.cons_append, List.nil_append, Query.row_mk, Val.row, mkL_len]
 have ng3 : decide (q + (cnL cnItem items : Int) + (cnL cnSource from_ : Int) + (cnL cnExpr where_ : Int) + (cnL cnSortKey order : Int) < 0) = false := decide_eq_false (by omega)
 have np3 : (q + (cnL cnItem items : Int) + (cnL cnSource from_ : Int) + (cnL cnExpr where_ : Int) + (cnL cnSortKey order : Int) < 0) = False := eq_false (by omega)
 try simp only [tt, seval, ng3, np3, List.cons_append, List.nil_append, Query.row_mk, Val.row, mkL_len]
 exact ⟨_, _, rfl, end0 rfl⟩
end Go.Proofs.YteffjmaadkkmeaaGreatDoor
set_option maxRecDepth 8000
namespace Go.Proofs.YteffjmaadkkmeaaGreatDoor
open Go Go.Dv
open Go.Vc (D shrI xorI andI and255)
section
variable {L : List Tok}
def LeM {α : Type} (m m' : PM α) : Prop := ∀ s r, m s = some r → m' s = some r
theorem LeM.chain {g g' : PM Expr} (hg : LeM g g') (lv : Nat) : ∀ (n : Nat) (e : Expr), LeM (chainM L g lv n e) (chainM L g' lv n e)
 | 0, _, _, _, h => by cases h
 | n + 1, e, s, r, h => by
  rw [chainM] at h ⊢
  split at h
  ·rename_i hc; rw [if_pos hc]; exact h
  ·rename_i hc
   rw [if_neg hc]
   split at h
   ·cases h
   ·rename_i y s1 h1
    rw [hg _ _ h1]
    exact LeM.chain hg lv n _ _ _ h
theorem LeM.sep {α : Type} {g g' : PM α} (hg : LeM g g') : ∀ (n : Nat) (l : List α), LeM (sepM L g n l) (sepM L g' n l)
 | 0, _, _, _, h => by cases h
 | n + 1, l, s, r, h => by
  rw [sepM] at h ⊢
  split at h
  ·rename_i hc
   rw [if_pos hc]
   split at h
   ·cases h
   ·rename_i y s1 h1
    rw [hg _ _ h1]
    exact LeM.sep hg n _ _ _ h
  ·rename_i hc; rw [if_neg hc]; exact h
variable {f f' : Nat → PM Expr} {q q' : PM Query} (hf : ∀ lv, LeM (f lv) (f' lv)) (hq : LeM q q')
include hf
theorem LeM.ors : LeM (orsM L f) (orsM L f') := fun s r h => by
 unfold orsM at h ⊢
 split at h
 ·cases h
 ·rename_i y s1 h1
  rw [hf 1 _ _ h1]
  exact LeM.sep (hf 1) _ _ _ _ h
include hq in
theorem LeM.inn (e : Expr) (n : Bool) : LeM (inM L f q e n) (inM L f' q' e n) := fun s r h => by
 unfold inM at h ⊢
 simp only at h ⊢
 split at h
 ·rename_i hc
  rw [if_pos hc]
  split at h
  ·cases h
  ·rename_i y s1 h1
   rw [hq _ _ h1]; exact h
 ·rename_i hc
  rw [if_neg hc]
  split at h
  ·cases h
  ·rename_i y s1 h1
   rw [LeM.ors hf _ _ h1]; exact h
include hq in
theorem LeM.cmpT (e : Expr) : LeM (cmpT L f q e) (cmpT L f' q' e) := fun s r h => by
 unfold Go.Proofs.YteffjmaadkkmeaaGreatDoor.cmpT at h ⊢
 simp only at h ⊢
 split at h
 ·rename_i hc; rw [if_pos hc]; exact h
 ·rename_i hc
  rw [if_neg hc]
  split at h
  ·rename_i hd
   rw [if_pos hd]
   split at h
   ·cases h
   ·rename_i y s1 h1
    rw [hf 5 _ _ h1]
    simp only
    split at h
    ·cases h
    ·rename_i z s2 h2
     rw [hf 5 _ _ h2]; exact h
  ·rename_i hd
   rw [if_neg hd]
   split at h
   ·rename_i he; rw [if_pos he]; exact LeM.inn hf hq _ _ _ _ h
   ·rename_i he; rw [if_neg he]; exact h
include hq in
theorem LeM.cmp : LeM (cmpM L f q) (cmpM L f' q') := fun s r h => by
 unfold cmpM at h ⊢
 split at h
 ·cases h
 ·rename_i y s1 h1
  rw [hf 5 _ _ h1]
  simp only
  split at h
  ·rename_i hc; rw [if_pos hc]; exact LeM.cmpT hf hq _ _ _ h
  ·rename_i hc
   rw [if_neg hc]
   split at h
   ·cases h
   ·rename_i z s2 h2
    rw [hf 5 _ _ h2]; exact h
include hq in
theorem LeM.prim : LeM (primM L f q) (primM L f' q') := fun s r h => by
 unfold primM at h ⊢
 simp only at h ⊢
 split at h
 ·rename_i hc; rw [if_pos hc]; exact h
 rename_i c1
 rw [if_neg c1]
 split at h
 ·rename_i hc; rw [if_pos hc]; exact h
 rename_i c2
 rw [if_neg c2]
 split at h
 ·rename_i hc; rw [if_pos hc]; exact h
 rename_i c3
 rw [if_neg c3]
 split at h
 ·rename_i hc; rw [if_pos hc]; exact h
 rename_i c4
 rw [if_neg c4]
 split at h
 ·rename_i hc; rw [if_pos hc]; exact h
 rename_i c5
 rw [if_neg c5]
 split at h
 ·rename_i hc; rw [if_pos hc]; exact h
 rename_i c6
 rw [if_neg c6]
 split at h
 ·rename_i hc
  rw [if_pos hc]
  split at h
  ·cases h
  ·rename_i y s1 h1
   rw [hf 1 _ _ h1]; exact h
 rename_i c7
 rw [if_neg c7]
 split at h
 ·rename_i hc
  rw [if_pos hc]
  split at h
  ·cases h
  ·rename_i y s1 h1
   rw [hq _ _ h1]; exact h
 ·rename_i hc; rw [if_neg hc]; exact h
include hq in
theorem LeM.stepE (lv : Nat) : LeM (stepE L f q lv) (stepE L f' q' lv) := fun s r h => by
 unfold Go.Proofs.YteffjmaadkkmeaaGreatDoor.stepE at h ⊢
 split at h
 ·rename_i hc
  rw [if_pos hc]
  split at h
  ·rename_i hd
   rw [if_pos hd]
   split at h
   ·cases h
   ·rename_i y s1 h1
    rw [hf 3 _ _ h1]; exact h
  ·rename_i hd; rw [if_neg hd]; exact hf 4 _ _ h
 rename_i c1
 rw [if_neg c1]
 split at h
 ·rename_i hc; rw [if_pos hc]; exact LeM.cmp hf hq _ _ h
 rename_i c2
 rw [if_neg c2]
 split at h
 ·rename_i hc
  rw [if_pos hc]
  split at h
  ·rename_i hd
   rw [if_pos hd]
   split at h
   ·cases h
   ·rename_i y s1 h1
    rw [hf 8 _ _ h1]; exact h
  ·rename_i hd; rw [if_neg hd]; exact hf 9 _ _ h
 rename_i c3
 rw [if_neg c3]
 split at h
 ·rename_i hc; rw [if_pos hc]; exact LeM.prim hf hq _ _ h
 ·rename_i hc
  rw [if_neg hc]
  split at h
  ·cases h
  ·rename_i y s1 h1
   rw [hf _ _ _ h1]
   exact LeM.chain (hf _) _ _ _ _ _ h
theorem LeM.item : LeM (itemM L f) (itemM L f') := fun s r h => by
 unfold itemM at h ⊢
 split at h
 ·rename_i hc; rw [if_pos hc]; exact h
 rename_i c1
 rw [if_neg c1]
 split at h
 ·rename_i hc; rw [if_pos hc]; exact h
 rename_i c2
 rw [if_neg c2]
 split at h
 ·cases h
 ·rename_i y s1 h1
  rw [hf 1 _ _ h1]; exact h
theorem LeM.sources : ∀ (n : Nat) (l : List Source), LeM (sourcesM L f n l) (sourcesM L f' n l)
 | 0, _, _, _, h => by cases h
 | n + 1, l, s, r, h => by
  rw [sourcesM] at h ⊢
  split at h
  ·rename_i hc; rw [if_pos hc]; exact LeM.sources n _ _ _ h
  rename_i c1
  rw [if_neg c1]
  simp only at h ⊢
  split at h
  ·rename_i hc
   rw [if_pos hc]
   split at h
   ·cases h
   ·rename_i y s1 h1
    rw [hf 1 _ _ h1]
    exact LeM.sources n _ _ _ h
  ·rename_i hc; rw [if_neg hc]; exact h
theorem LeM.wher : LeM (whereM L f) (whereM L f') := fun s r h => by
 unfold whereM at h ⊢
 split at h
 ·rename_i hc
  rw [if_pos hc]
  split at h
  ·cases h
  ·rename_i y s1 h1
   rw [hf 1 _ _ h1]; exact h
 ·rename_i hc; rw [if_neg hc]; exact h
theorem LeM.sort : LeM (sortM L f) (sortM L f') := fun s r h => by
 unfold sortM at h ⊢
 split at h
 ·cases h
 ·rename_i y s1 h1
  rw [hf 1 _ _ h1]; exact h
theorem LeM.order : LeM (orderM L f) (orderM L f') := fun s r h => by
 unfold orderM at h ⊢
 simp only at h ⊢
 split at h
 ·rename_i hc
  rw [if_pos hc]
  split at h
  ·cases h
  ·rename_i y s1 h1
   rw [LeM.sort hf _ _ h1]
   exact LeM.sep (LeM.sort hf) _ _ _ _ h
 ·rename_i hc; rw [if_neg hc]; exact h
theorem LeM.items : LeM (itemsM L f) (itemsM L f') := fun s r h => by
 unfold itemsM at h ⊢
 split at h
 ·cases h
 ·rename_i y s1 h1
  rw [LeM.item hf _ _ h1]
  exact LeM.sep (LeM.item hf) _ _ _ _ h
theorem LeM.stepQ : LeM (stepQ L f) (stepQ L f') := fun s r h => by
 unfold Go.Proofs.YteffjmaadkkmeaaGreatDoor.stepQ at h ⊢
 simp only at h ⊢
 split at h
 ·cases h
 rename_i its s2 h1
 rw [LeM.items hf _ _ h1]
 simp only
 split at h
 ·cases h
 rename_i frs s4 h2
 rw [LeM.sources hf _ _ _ _ h2]
 simp only
 split at h
 ·cases h
 rename_i wh s5 h3
 rw [LeM.wher hf _ _ h3]
 simp only
 split at h
 ·cases h
 rename_i od s6 h4
 rw [LeM.order hf _ _ h4]
 exact h
omit hf
theorem pP_more : ∀ k, (∀ lv, LeM ((pP L k).1 lv) ((pP L (k + 1)).1 lv)) ∧ LeM (pP L k).2 (pP L (k + 1)).2
 | 0 => ⟨fun _ _ _ h => (by cases h), fun _ _ h => (by cases h)⟩
 | k + 1 => ⟨fun lv => LeM.stepE (pP_more k).1 (pP_more k).2 lv, LeM.stepQ (pP_more k).1⟩
theorem df_eq {α : Type} {m m' : PM α} (h : LeM m m') (s : PS) (hd : Df m s) : m' s = m s := by
 obtain ⟨x, s1, h1⟩ := hd
 rw [h1, h _ _ h1]
theorem pQuery_eq (s : PS) : pQuery L s = stepQ L (pExpr L) s := by
 have := df_eq (pP_more (L := L) (pD L)).2 s (pQuery_df s)
 exact this.symm
end
def PB (L : List Tok) (s : PS) : List C := [.sl L.length (L.flatMap Tok.row) none, .v (.int .i64 s.a), .v (.bool s.b)]
def nxT (L : List Tok) (s : PS) (k : Nat) : Tok := (tkAt L s k).getD ⟨0, ⟨#[]⟩, 0⟩
theorem nx_T (L : List Tok) (s : PS) (k : Nat) (kind : Int) (x : ByteArray) (h : kind ≠ 0) : (decide ((nxT L s k).kind = kind) && decide ((nxT L s k).text = x)) = isT L s k kind x := by
 unfold nxT isT
 cases tkAt L s k with
 | none => simp [Ne.symm h]
 | some t => rfl
theorem nx_K (L : List Tok) (s : PS) (kind : Int) (h : kind ≠ 0) : (decide ((nxT L s 0).kind = kind) && okTok (nxT L s 0)) = isK L s kind := by
 unfold nxT isK
 cases tkAt L s 0 with
 | none => simp [Ne.symm h]
 | some t => rfl
theorem nx_text (L : List Tok) (s : PS) : (nxT L s 0).text = textAt L s := by
 unfold nxT textAt
 cases tkAt L s 0 with
 | none => rfl
 | some t => rfl
theorem nx_small {L : List Tok} (hL : L.length ≤ 1048576) (hT : ∀ t ∈ L, t.text.size ≤ 1048576) (s : PS) (k : Nat) : (nxT L s k).text.size ≤ 1048576 := by
 unfold nxT
 cases h : tkAt L s k with
 | none => exact Nat.zero_le _
 | some t =>
  unfold tkAt at h
  split at h
  ·cases h
  ·exact hT t (List.mem_of_getElem? h)
theorem l12Next_d (L : List Tok) (hL : L.length ≤ 1048576) (hT : ∀ t ∈ L, t.text.size ≤ 1048576) (s : PS) (k : Nat) (hk : k ≤ 100) (ha : s.a ≤ L.length) : Cl Tryz.prog 152 [.c (.p 9000 0), vi k] [PB L s] fun r os => r = .ag (csOf (nxT L s k).row) ∧ os = [PB L s] := by
 obtain ⟨a, b⟩ := s
 have ha : a ≤ L.length := ha
 cases b with
 | true =>
  have e : nxT L ⟨a, true⟩ k = ⟨0, ⟨#[]⟩, 0⟩ := rfl
  rw [e]
  refine cl_of_d follows_mixed false Tryz.func152 rfl (by kernel_rfl) ?_
  simp only [Tryz.f152, tt, seval]
  refine dDrawn.intro [] (pln [0, 2, 4, 6, 8, 10, 12, 14, 16, 18, 20, 22, 24, 26, 28, 30, 32, 34]) (by kernel_rfl) ?_
  simp only [tt, seval]
  simp only [tt, seval, PB]
  refine ⟨_, [PB L ⟨a, true⟩], ⟨rfl, rfl⟩, endOk ?_⟩
  simp only [tt, seval, PB, Tok.row]
  rfl
 | false =>
  refine cl_of_d follows_mixed false Tryz.func152 rfl (by kernel_rfl) ?_
  simp only [Tryz.f152, tt, seval]
  refine dDrawn.intro [] (pln [0, 2, 4, 6, 8, 10, 12, 14, 16, 18, 20, 22, 24, 26, 28, 30, 32, 34]) (by kernel_rfl) ?_
  simp only [tt, seval]
  simp only [tt, seval, PB]
  rw [wrap_id (n := (a : Int) + k) (by omega) (by omega)]
  refine fun _ => And.intro (fun hge => ?_) (fun hlt => ?_)
  ·have e : nxT L ⟨a, false⟩ k = ⟨0, ⟨#[]⟩, 0⟩ := by
    show (L[a + k]?).getD _ = _
    rw [List.getElem?_eq_none_iff.2 (by omega)]; rfl
   rw [e]
   refine ⟨_, [PB L ⟨a, false⟩], ⟨rfl, rfl⟩, endOk ?_⟩
   simp only [tt, seval, PB, Tok.row]
   rfl
  ·have hlt : a + k < L.length := by omega
   have e : nxT L ⟨a, false⟩ k = L[a + k] := by
    show (L[a + k]?).getD _ = _
    rw [List.getElem?_eq_getElem hlt]; rfl
   rw [e]
   refine dDrawn.intro [] (pln [0, 2, 4, 6, 8, 10, 12, 14, 16, 18, 20, 22, 25]) (by kernel_rfl) ?_
   simp only [tt, seval]
   try simp only [tt, seval]
   rw [wrap_id (n := (a : Int) + k) (by omega) (by omega)]
   have e2 : ((a : Int) + (k : Int)).toNat = a + k := by omega
   simp only [e2]
   refine ⟨by omega, by omega, _, drop_row Tok.row_len (List.getElem?_eq_getElem (by omega)), Tok.ne _ _, ?_⟩
   simp only [tt, seval, Tok.tk, Tok.row]
   refine ⟨_, [PB L ⟨a, false⟩], ⟨rfl, rfl⟩, endOk ?_⟩
   simp only [tt, seval, PB, Tok.row]
theorem l12Key_d (L : List Tok) (hL : L.length ≤ 1048576) (hT : ∀ t ∈ L, t.text.size ≤ 1048576) (s : PS) (k : Nat) (h1 : 1 ≤ k) (h2 : k ≤ 28) (ha : s.a ≤ L.length) : Cl Tryz.prog 94 [.c (.p 9000 0), vi k] [PB L s] fun r os => r = vb (isKey L s k) ∧ os = [PB L s] := by
 rw [show isKey L s k = _ from (nx_T L s 0 1 (kw k) (by decide)).symm]
 refine cl_of_d follows_mixed false Tryz.func94 rfl (by kernel_rfl) ?_
 simp only [Tryz.f94, tt, seval]
 refine CallQ.intro (l12Next_d L hL hT s 0 (by omega) ha) ?_ ?_ ?_
 ·decide
 ·simp only [tt, seval, PB, Tok.row]
 rintro r os ⟨rfl, rfl⟩ hos
 simp only [tt, seval, PB, Tok.row]
 refine dDrawn.intro [] (pln [0, 2, 4, 6, 8, 10, 12, 15, 16, 18, 20]) (by kernel_rfl) ?_
 simp only [tt, seval]
 try simp only [tt, seval, PB, Tok.row]
 generalize nxT L s 0 = t at *
 by_cases hk : t.kind = 1
 ·simp only [tt, seval, decide_eq_true hk]
  refine call0 (KeyText_d k h1 h2) ?_ ?_ ?_
  ·decide
  ·simp only [tt, seval, PB, Tok.row]
  rintro r rfl
  simp only [tt, seval, PB, Tok.row]
  refine ⟨_, [PB L s], ⟨rfl, rfl⟩, endOk ?_⟩
  simp only [tt, seval, PB]
 ·simp only [tt, seval, decide_eq_false hk]
  refine ⟨_, [PB L s], ⟨rfl, rfl⟩, endOk ?_⟩
  simp only [tt, seval, PB]
theorem l12Sign_d (L : List Tok) (hL : L.length ≤ 1048576) (hT : ∀ t ∈ L, t.text.size ≤ 1048576) (s : PS) (x : ByteArray) (ha : s.a ≤ L.length) : Cl Tryz.prog 88 [.c (.p 9000 0), vs x] [PB L s] fun r os => r = vb (isT L s 0 5 x) ∧ os = [PB L s] := by
 rw [show isT L s 0 5 x = _ from (nx_T L s 0 5 x (by decide)).symm]
 refine cl_of_d follows_mixed false Tryz.func88 rfl (by kernel_rfl) ?_
 simp only [Tryz.f88, tt, seval]
 refine CallQ.intro (l12Next_d L hL hT s 0 (by omega) ha) ?_ ?_ ?_
 ·decide
 ·simp only [tt, seval, PB, Tok.row]
 rintro r os ⟨rfl, rfl⟩ hos
 simp only [tt, seval, PB, Tok.row]
 generalize nxT L s 0 = t at *
 by_cases hk : t.kind = 5
 ·simp only [tt, seval, decide_eq_true hk]
  refine ⟨_, [PB L s], ⟨rfl, rfl⟩, endOk ?_⟩
  simp only [tt, seval, PB]
 ·simp only [tt, seval, decide_eq_false hk]
  refine ⟨_, [PB L s], ⟨rfl, rfl⟩, endOk ?_⟩
  simp only [tt, seval, PB]
theorem l12Kind_d (L : List Tok) (hL : L.length ≤ 1048576) (hT : ∀ t ∈ L, t.text.size ≤ 1048576) (s : PS) (k : Nat) (h1 : 1 ≤ k) (ha : s.a ≤ L.length) : Cl Tryz.prog 153 [.c (.p 9000 0), vi k] [PB L s] fun r os => r = vb (isK L s k) ∧ os = [PB L s] := by
 rw [show isK L s k = _ from (nx_K L s k (by omega)).symm]
 refine cl_of_d follows_mixed false Tryz.func153 rfl (by kernel_rfl) ?_
 simp only [Tryz.f153, tt, seval]
 refine CallQ.intro (l12Next_d L hL hT s 0 (by omega) ha) ?_ ?_ ?_
 ·decide
 ·simp only [tt, seval, PB, Tok.row]
 rintro r os ⟨rfl, rfl⟩ hos
 simp only [tt, seval, PB, Tok.row]
 have hs := nx_small hL hT s 0
 generalize nxT L s 0 = t at *
 by_cases hk : t.kind = k
 ·simp only [tt, seval, decide_eq_true hk]
  refine call0 (TokenOk_d t hs) ?_ ?_ ?_
  ·decide
  ·simp only [tt, seval, PB, Tok.row]
  rintro r rfl
  simp only [tt, seval, PB, Tok.row]
  refine ⟨_, [PB L s], ⟨rfl, rfl⟩, endOk ?_⟩
  simp only [tt, seval, PB]
 ·simp only [tt, seval, decide_eq_false hk]
  refine ⟨_, [PB L s], ⟨rfl, rfl⟩, endOk ?_⟩
  simp only [tt, seval, PB]
theorem l12Step_d (L : List Tok) (hL : L.length ≤ 1048576) (hT : ∀ t ∈ L, t.text.size ≤ 1048576) (s : PS) (c : Bool) (hc : c = true → s.b = false ∧ s.a < L.length) : Cl Tryz.prog 89 [.c (.p 9000 0), vb c] [PB L s] fun r os => r = .tu [] ∧ os = [PB L (must c s)] := by
 obtain ⟨a, b⟩ := s
 cases c with
 | true =>
  obtain ⟨rfl, ha⟩ := hc rfl
  have ha : a < L.length := ha
  refine cl_of_d follows_mixed false Tryz.func89 rfl (by kernel_rfl) ?_
  simp only [Tryz.f89, tt, seval]
  simp only [tt, seval, PB]
  rw [wrap_id (n := (a : Int) + 1) (by omega) (by omega)]
  refine ⟨_, [PB L ⟨a + 1, false⟩], ⟨rfl, rfl⟩, endOk ?_⟩
  simp only [tt, seval, PB]
  rfl
 | false =>
  refine cl_of_d follows_mixed false Tryz.func89 rfl (by kernel_rfl) ?_
  simp only [Tryz.f89, tt, seval]
  simp only [tt, seval, PB]
  refine ⟨_, [PB L ⟨a, true⟩], ⟨rfl, rfl⟩, endOk ?_⟩
  simp only [tt, seval, PB]
theorem l12Maybe_d (L : List Tok) (hL : L.length ≤ 1048576) (hT : ∀ t ∈ L, t.text.size ≤ 1048576) (s : PS) (k : Nat) (h1 : 1 ≤ k) (h2 : k ≤ 28) (ha : s.a ≤ L.length) : Cl Tryz.prog 86 [.c (.p 9000 0), vi k] [PB L s] fun r os => r = vb (isKey L s k) ∧ os = [PB L (tkIf (isKey L s k) s)] := by
 refine cl_of_d follows_mixed false Tryz.func86 rfl (by kernel_rfl) ?_
 simp only [Tryz.f86, tt, seval]
 refine CallQ.intro (l12Key_d L hL hT s k h1 h2 ha) ?_ ?_ ?_
 ·decide
 ·simp only [tt, seval, PB]
 rintro r os ⟨rfl, rfl⟩ hos
 simp only [tt, seval, PB]
 cases hk : isKey L s k with
 | true =>
  simp only [tt, seval]
  refine CallQ.intro (l12Step_d L hL hT s true (fun _ => isKey_lt hk)) ?_ ?_ ?_
  ·decide
  ·simp only [tt, seval, PB]
  rintro r os ⟨rfl, rfl⟩ hos
  simp only [tt, seval, PB]
  refine ⟨_, [PB L (adv s)], ⟨rfl, rfl⟩, endOk ?_⟩
  simp only [tt, seval, PB, must]
 | false =>
  simp only [tt, seval, Bool.false_eq_true]
  refine ⟨_, [PB L s], ⟨rfl, rfl⟩, endOk ?_⟩
  simp only [tt, seval, PB]
theorem l12Text_d (L : List Tok) (hL : L.length ≤ 1048576) (hT : ∀ t ∈ L, t.text.size ≤ 1048576) (s : PS) (k : Nat) (h1 : 1 ≤ k) (ha : s.a ≤ L.length) : Cl Tryz.prog 100 [.c (.p 9000 0), vi k] [PB L s] fun r os => r = vs (mText L k s).1 ∧ os = [PB L (mText L k s).2] := by
 refine cl_of_d follows_mixed false Tryz.func100 rfl (by kernel_rfl) ?_
 simp only [Tryz.f100, tt, seval]
 refine CallQ.intro (l12Next_d L hL hT s 0 (by omega) ha) ?_ ?_ ?_
 ·decide
 ·simp only [tt, seval, PB, Tok.row]
 rintro r os ⟨rfl, rfl⟩ hos
 simp only [tt, seval, PB, Tok.row]
 refine CallQ.intro (l12Kind_d L hL hT s k h1 ha) ?_ ?_ ?_
 ·decide
 ·simp only [tt, seval, PB, Tok.row]
 rintro r os ⟨rfl, rfl⟩ hos
 simp only [tt, seval, PB, Tok.row]
 refine CallQ.intro (l12Step_d L hL hT s (isK L s k) (fun h => isK_lt h)) ?_ ?_ ?_
 ·decide
 ·simp only [tt, seval, PB, Tok.row]
 rintro r os ⟨rfl, rfl⟩ hos
 simp only [tt, seval, PB, Tok.row]
 cases hk : isK L s k with
 | true =>
  obtain ⟨hb, _⟩ := isK_lt hk
  simp only [tt, seval, must, adv, hb]
  refine ⟨vs (nxT L s 0).text, [PB L (adv s)], ⟨?_, ?_⟩, endOk ?_⟩
  ·rw [mText, if_pos hk, nx_text]
  ·rw [mText, if_pos hk]; rfl
  ·simp only [tt, seval, PB, adv, hb]
 | false =>
  simp only [tt, seval, must, fl]
  refine ⟨vs ⟨#[]⟩, [PB L (fl s)], ⟨?_, ?_⟩, endOk ?_⟩
  ·rw [mText, if_neg (by rw [hk]; simp)]
  ·rw [mText, if_neg (by rw [hk]; simp)]; rfl
  ·simp only [tt, seval, PB, fl]
theorem tkT (s : PS) : tkIf true s = adv s := rfl
theorem tkF (s : PS) : tkIf false s = s := rfl
theorem muT (s : PS) : must true s = adv s := rfl
theorem muF (s : PS) : must false s = fl s := rfl
def SpE (L : List Tok) (fn : FuncId) (args : List S) (m : PM Expr) : Prop := ∀ s e s', m s = some (e, s') → s.a ≤ L.length → Cl Tryz.prog fn (.c (.p 9000 0) :: args) [PB L s] fun r os => r = .ag (csOf e.row) ∧ os = [PB L s']
def SpQ (L : List Tok) (fn : FuncId) (m : PM Query) : Prop := ∀ s e s', m s = some (e, s') → s.a ≤ L.length → Cl Tryz.prog fn [.c (.p 9000 0)] [PB L s] fun r os => r = .ag (csOf e.row) ∧ os = [PB L s']
theorem text_small {L : List Tok} (hL : L.length ≤ 1048576) (hT : ∀ t ∈ L, t.text.size ≤ 1048576) (s : PS) : (textAt L s).size ≤ 1048576 := by
 rw [← nx_text]; exact nx_small hL hT s 0
theorem adv_le {L : List Tok} {s : PS} (h : s.b = false ∧ s.a < L.length) : (adv s).a ≤ L.length := h.2
theorem mt_yes {L : List Tok} {s : PS} {k : Int} (h : isK L s k = true) : mText L k s = (textAt L s, adv s) := by rw [mText, if_pos h]
theorem key_not_sg {L : List Tok} {s : PS} {k : Nat} {c : UInt8} (h : isKey L s k = true) : isSg L s c = false := by
 unfold isKey isT at h
 unfold isSg isT
 cases ht : tkAt L s 0 with
 | none => rfl
 | some t =>
  rw [ht] at h
  simp only [Bool.and_eq_true, decide_eq_true_eq] at h
  simp [h.1]
theorem bae : ByteArray.empty = ⟨#[]⟩ := rfl
theorem TextValue_d (s : ByteArray) : Cl Tryz.prog 154 [vs s] [] fun r _ => r = .ag (csOf (Val.mk 2 0 s).row) := by
 refine cl_of_d follows_mixed false Tryz.func154 rfl (by kernel_rfl) ?_
 simp only [Tryz.f154, tt, seval]
 refine ⟨.ag (csOf (Val.mk 2 0 s).row), [], rfl, end0 rfl⟩
theorem BoolValue_t : Cl Tryz.prog 155 [vb true] [] fun r _ => r = .ag (csOf (Val.mk 3 1 z0).row) := by
 refine cl_of_d follows_mixed false Tryz.func155 rfl (by kernel_rfl) ?_
 simp only [Tryz.f155, tt, seval]
 refine ⟨.ag (csOf (Val.mk 3 1 z0).row), [], rfl, endOk ?_⟩
 simp only [tt, seval, Val.row, z0, bae]
theorem BoolValue_f : Cl Tryz.prog 155 [vb false] [] fun r _ => r = .ag (csOf (Val.mk 3 0 z0).row) := by
 refine cl_of_d follows_mixed false Tryz.func155 rfl (by kernel_rfl) ?_
 simp only [Tryz.f155, tt, seval]
 refine ⟨.ag (csOf (Val.mk 3 0 z0).row), [], rfl, endOk ?_⟩
 simp only [tt, seval, Val.row, z0, bae]
theorem l12SignC_d (L : List Tok) (hL : L.length ≤ 1048576) (hT : ∀ t ∈ L, t.text.size ≤ 1048576) (s : PS) (c : UInt8) (ha : s.a ≤ L.length) : Cl Tryz.prog 88 [.c (.p 9000 0), vs ⟨#[c]⟩] [PB L s] fun r os => r = vb (isSg L s c) ∧ os = [PB L s] := l12Sign_d L hL hT s ⟨#[c]⟩ ha
theorem l12As_d (L : List Tok) (hL : L.length ≤ 1048576) (hT : ∀ t ∈ L, t.text.size ≤ 1048576) (s : PS) (ha : s.a ≤ L.length) : Cl Tryz.prog 162 [.c (.p 9000 0)] [PB L s] fun r os => r = vs (asM L s).1 ∧ os = [PB L (asM L s).2] := by
 refine cl_of_d follows_mixed false Tryz.func162 rfl (by kernel_rfl) ?_
 simp only [Tryz.f162, tt, seval]
 refine CallQ.intro (l12Maybe_d L hL hT s 12 (by omega) (by omega) ha) ?_ ?_ ?_
 ·decide
 ·simp only [tt, seval, PB]
 rintro r os ⟨rfl, rfl⟩ hos
 simp only [tt, seval, PB]
 cases c : isKey L s 12 with
 | true =>
  have hm : asM L s = mText L 2 (adv s) := by rw [asM, if_pos c]
  rw [hm]
  simp only [tt, seval, tkT, tkF, muT, muF]
  refine CallQ.intro (l12Text_d L hL hT (adv s) 2 (by omega) (adv_le (isKey_lt c))) ?_ ?_ ?_
  ·decide
  ·simp only [tt, seval, PB]
  rintro r os ⟨rfl, rfl⟩ hos
  simp only [tt, seval, PB]
  refine ⟨_, [PB L (mText L 2 (adv s)).2], ⟨rfl, rfl⟩, endOk ?_⟩
  simp only [tt, seval, PB]
 | false =>
  have hm : asM L s = (z0, s) := by rw [asM, if_neg (by rw [c]; simp)]
  rw [hm]
  simp only [tt, seval, tkT, tkF, muT, muF, Bool.false_eq_true]
  refine ⟨vs z0, [PB L s], ⟨rfl, rfl⟩, endOk ?_⟩
  simp only [tt, seval, PB, z0]
set_option maxHeartbeats 1000000 in
theorem l12Prim_step (L : List Tok) (hL : L.length ≤ 1048576) (hT : ∀ t ∈ L, t.text.size ≤ 1048576) {f : Nat → PM Expr} {q : PM Query} (ok1 : OkM (L := L) (f 1)) (okq : OkM (L := L) q) (hf : SpE L 39 [vi 1] (f 1)) (hq : SpQ L 53 q) : SpE L 90 [] (primM L f q) := by
 intro s e s' h ha
 have hts := text_small hL hT s
 unfold primM at h
 simp only at h
 refine cl_of_d follows_mixed false Tryz.func90 rfl (by kernel_rfl) ?_
 simp only [Tryz.f90, tt, seval]
 refine CallQ.intro (l12Kind_d L hL hT s 3 (by omega) ha) ?_ ?_ ?_
 ·decide
 ·simp only [tt, seval, PB]
 rintro r os ⟨rfl, rfl⟩ hos
 simp only [tt, seval, PB]
 cases c3 : isK L s 3 with
 | true =>
  rw [if_pos c3] at h
  injection h with h; injection h with h1 h2; subst h1 h2
  simp only [tt, seval]
  refine CallQ.intro (l12Text_d L hL hT s 3 (by omega) ha) ?_ ?_ ?_
  ·decide
  ·simp only [tt, seval, PB]
  rintro r os ⟨rfl, rfl⟩ hos
  simp only [tt, seval, PB]
  rw [mt_yes c3]
  refine call0 (Number_d (textAt L s) hts) ?_ ?_ ?_
  ·decide
  ·simp only [tt, seval, numS]
  rintro r rfl
  simp only [tt, seval, numS]
  refine ⟨.ag (csOf (mLit ⟨1, numV (textAt L s), z0⟩).row), [PB L (adv s)], ⟨rfl, rfl⟩, endOk ?_⟩
  simp only [tt, seval, bae, PB, mLit, mCol, mKids, mUn, mBin, zExpr, zVal, z0, Expr.row_mk, Query.row_mk, List.flatMap_nil, List.flatMap_cons, List.append_nil, List.length_nil, List.length_cons]
 | false =>
 rw [if_neg (by rw [c3]; simp)] at h
 simp only [tt, seval]
 refine CallQ.intro (l12Kind_d L hL hT s 4 (by omega) ha) ?_ ?_ ?_
 ·decide
 ·simp only [tt, seval, PB]
 rintro r os ⟨rfl, rfl⟩ hos
 simp only [tt, seval, PB]
 cases c4 : isK L s 4 with
 | true =>
  rw [if_pos c4] at h
  injection h with h; injection h with h1 h2; subst h1 h2
  simp only [tt, seval]
  refine CallQ.intro (l12Text_d L hL hT s 4 (by omega) ha) ?_ ?_ ?_
  ·decide
  ·simp only [tt, seval, PB]
  rintro r os ⟨rfl, rfl⟩ hos
  simp only [tt, seval, PB]
  rw [mt_yes c4]
  refine call0 (TextValue_d (textAt L s)) ?_ ?_ ?_
  ·decide
  ·simp only [tt, seval, Val.row]
  rintro r rfl
  simp only [tt, seval, Val.row]
  refine ⟨.ag (csOf (mLit ⟨2, 0, textAt L s⟩).row), [PB L (adv s)], ⟨rfl, rfl⟩, endOk ?_⟩
  simp only [tt, seval, bae, PB, mLit, mCol, mKids, mUn, mBin, zExpr, zVal, z0, Expr.row_mk, Query.row_mk, List.flatMap_nil, List.flatMap_cons, List.append_nil, List.length_nil, List.length_cons]
 | false =>
 rw [if_neg (by rw [c4]; simp)] at h
 simp only [tt, seval, tkT, tkF, muT, muF]
 refine CallQ.intro (l12Maybe_d L hL hT s 20 (by omega) (by omega) ha) ?_ ?_ ?_
 ·decide
 ·simp only [tt, seval, PB]
 rintro r os ⟨rfl, rfl⟩ hos
 simp only [tt, seval, PB]
 cases c20 : isKey L s 20 with
 | true =>
  rw [if_pos c20] at h
  injection h with h; injection h with h1 h2; subst h1 h2
  simp only [tt, seval, tkT, tkF, muT, muF]
  refine ⟨.ag (csOf (mLit zVal).row), [PB L (adv s)], ⟨rfl, rfl⟩, endOk ?_⟩
  simp only [tt, seval, bae, PB, mLit, mCol, mKids, mUn, mBin, zExpr, zVal, z0, Expr.row_mk, Query.row_mk, List.flatMap_nil, List.flatMap_cons, List.append_nil, List.length_nil, List.length_cons]
 | false =>
 rw [if_neg (by rw [c20]; simp)] at h
 simp only [tt, seval, tkT, tkF, muT, muF, Bool.false_eq_true]
 refine CallQ.intro (l12Maybe_d L hL hT s 21 (by omega) (by omega) ha) ?_ ?_ ?_
 ·decide
 ·simp only [tt, seval, PB]
 rintro r os ⟨rfl, rfl⟩ hos
 simp only [tt, seval, PB]
 cases c21 : isKey L s 21 with
 | true =>
  rw [if_pos c21] at h
  injection h with h; injection h with h1 h2; subst h1 h2
  simp only [tt, seval, tkT, tkF, muT, muF]
  refine call0 (BoolValue_t) ?_ ?_ ?_
  ·decide
  ·simp only [tt, seval, Val.row]
  rintro r rfl
  simp only [tt, seval, Val.row]
  refine ⟨.ag (csOf (mLit ⟨3, 1, z0⟩).row), [PB L (adv s)], ⟨rfl, rfl⟩, endOk ?_⟩
  simp only [tt, seval, bae, PB, mLit, mCol, mKids, mUn, mBin, zExpr, zVal, z0, Expr.row_mk, Query.row_mk, List.flatMap_nil, List.flatMap_cons, List.append_nil, List.length_nil, List.length_cons]
 | false =>
 rw [if_neg (by rw [c21]; simp)] at h
 simp only [tt, seval, tkT, tkF, muT, muF, Bool.false_eq_true]
 refine CallQ.intro (l12Maybe_d L hL hT s 22 (by omega) (by omega) ha) ?_ ?_ ?_
 ·decide
 ·simp only [tt, seval, PB]
 rintro r os ⟨rfl, rfl⟩ hos
 simp only [tt, seval, PB]
 cases c22 : isKey L s 22 with
 | true =>
  rw [if_pos c22] at h
  injection h with h; injection h with h1 h2; subst h1 h2
  simp only [tt, seval, tkT, tkF, muT, muF]
  refine call0 (BoolValue_f) ?_ ?_ ?_
  ·decide
  ·simp only [tt, seval, Val.row]
  rintro r rfl
  simp only [tt, seval, Val.row]
  refine ⟨.ag (csOf (mLit ⟨3, 0, z0⟩).row), [PB L (adv s)], ⟨rfl, rfl⟩, endOk ?_⟩
  simp only [tt, seval, bae, PB, mLit, mCol, mKids, mUn, mBin, zExpr, zVal, z0, Expr.row_mk, Query.row_mk, List.flatMap_nil, List.flatMap_cons, List.append_nil, List.length_nil, List.length_cons]
 | false =>
 rw [if_neg (by rw [c22]; simp)] at h
 simp only [tt, seval, tkT, tkF, muT, muF, Bool.false_eq_true]
 refine CallQ.intro (l12Kind_d L hL hT s 2 (by omega) ha) ?_ ?_ ?_
 ·decide
 ·simp only [tt, seval, PB]
 rintro r os ⟨rfl, rfl⟩ hos
 simp only [tt, seval, PB]
 cases c2 : isK L s 2 with
 | true =>
  rw [if_pos c2] at h
  simp only [tt, seval]
  refine CallQ.intro (l12Text_d L hL hT s 2 (by omega) ha) ?_ ?_ ?_
  ·decide
  ·simp only [tt, seval, PB]
  rintro r os ⟨rfl, rfl⟩ hos
  simp only [tt, seval, PB]
  rw [mt_yes c2]
  simp only [tt, seval]
  have ha1 := adv_le (L := L) (isK_lt c2)
  refine CallQ.intro (l12SignC_d L hL hT (adv s) 46 ha1) ?_ ?_ ?_
  ·decide
  ·simp only [tt, seval, PB]
  rintro r os ⟨rfl, rfl⟩ hos
  simp only [tt, seval, PB]
  cases cd : isSg L (adv s) 46 with
  | true =>
   rw [if_pos cd] at h
   injection h with h; injection h with h1 h2; subst h1 h2
   simp only [tt, seval, cd]
   refine CallQ.intro (l12Step_d L hL hT (adv s) true (fun _ => isSg_lt cd)) ?_ ?_ ?_
   ·decide
   ·simp only [tt, seval, PB, muT]
   rintro r os ⟨rfl, rfl⟩ hos
   simp only [tt, seval, PB, muT]
   refine CallQ.intro (l12Text_d L hL hT (adv (adv s)) 2 (by omega) (adv_le (isSg_lt cd))) ?_ ?_ ?_
   ·decide
   ·simp only [tt, seval, PB]
   rintro r os ⟨rfl, rfl⟩ hos
   simp only [tt, seval, PB]
   refine ⟨.ag (csOf (mCol (textAt L s) (mText L 2 (adv (adv s))).1).row), [PB L ((mText L 2 (adv (adv s))).2)], ⟨rfl, rfl⟩, endOk ?_⟩
   simp only [tt, seval, bae, PB, mLit, mCol, mKids, mUn, mBin, zExpr, zVal, z0, Expr.row_mk, Query.row_mk, List.flatMap_nil, List.flatMap_cons, List.append_nil, List.length_nil, List.length_cons]
  | false =>
   rw [if_neg (by rw [cd]; simp)] at h
   injection h with h; injection h with h1 h2; subst h1 h2
   simp only [tt, seval, cd]
   refine ⟨.ag (csOf (mCol z0 (textAt L s)).row), [PB L (adv s)], ⟨rfl, rfl⟩, endOk ?_⟩
   simp only [tt, seval, bae, PB, mLit, mCol, mKids, mUn, mBin, zExpr, zVal, z0, Expr.row_mk, Query.row_mk, List.flatMap_nil, List.flatMap_cons, List.append_nil, List.length_nil, List.length_cons]
 | false =>
 simp only [tt, seval]
 refine CallQ.intro (l12Maybe_d L hL hT s 19 (by omega) (by omega) ha) ?_ ?_ ?_
 ·decide
 ·simp only [tt, seval, PB]
 rintro r os ⟨rfl, rfl⟩ hos
 simp only [tt, seval, PB]
 cases c19 : isKey L s 19 with
 | true =>
  rw [if_neg (by rw [c2]; simp), if_neg (by rw [key_not_sg c19]; simp), if_pos c19] at h
  simp only [tt, seval, tkT, tkF, muT, muF]
  have ha1 := adv_le (L := L) (isKey_lt c19)
  have o1 : Ok L (adv s) (must (isSg L (adv s) 40) (adv s)) := Ok.must fun h => isSg_lt h
  refine CallQ.intro (l12SignC_d L hL hT (adv s) 40 ha1) ?_ ?_ ?_
  ·decide
  ·simp only [tt, seval, PB]
  rintro r os ⟨rfl, rfl⟩ hos
  simp only [tt, seval, PB]
  refine CallQ.intro (l12Step_d L hL hT (adv s) (isSg L (adv s) 40) (fun h => isSg_lt h)) ?_ ?_ ?_
  ·decide
  ·simp only [tt, seval, PB]
  rintro r os ⟨rfl, rfl⟩ hos
  simp only [tt, seval, PB]
  split at h
  ·cases h
  ·rename_i x t hx
   injection h with h; injection h with h1 h2; subst h1 h2
   have o2 := okq _ _ _ hx
   obtain ⟨d, its, frs, whs, ods, lim⟩ := x
   have c := hq _ _ _ hx (o1.2.1 ha1)
   rw [Query.row_mk] at c
   refine CallQ.intro (c) ?_ ?_ ?_
   ·decide
   ·simp only [tt, seval, PB]
   rintro r os ⟨rfl, rfl⟩ hos
   simp only [tt, seval, PB]
   refine CallQ.intro (l12SignC_d L hL hT t 41 (o2.2.1 (o1.2.1 ha1))) ?_ ?_ ?_
   ·decide
   ·simp only [tt, seval, PB]
   rintro r os ⟨rfl, rfl⟩ hos
   simp only [tt, seval, PB]
   refine CallQ.intro (l12Step_d L hL hT t (isSg L t 41) (fun h => isSg_lt h)) ?_ ?_ ?_
   ·decide
   ·simp only [tt, seval, PB]
   rintro r os ⟨rfl, rfl⟩ hos
   simp only [tt, seval, PB]
   refine ⟨.ag (csOf (mKids 9 false [] [.mk d its frs whs ods lim]).row), [PB L (must (isSg L t 41) t)], ⟨rfl, rfl⟩, endOk ?_⟩
   simp only [tt, seval, bae, PB, mLit, mCol, mKids, mUn, mBin, zExpr, zVal, z0, Expr.row_mk, Query.row_mk, List.flatMap_nil, List.flatMap_cons, List.append_nil, List.length_nil, List.length_cons]
 | false =>
 simp only [tt, seval, tkT, tkF, muT, muF, Bool.false_eq_true]
 rw [if_neg (by rw [c2]; simp)] at h
 refine CallQ.intro (l12SignC_d L hL hT s 40 ha) ?_ ?_ ?_
 ·decide
 ·simp only [tt, seval, PB]
 rintro r os ⟨rfl, rfl⟩ hos
 simp only [tt, seval, PB]
 refine CallQ.intro (l12Step_d L hL hT s (isSg L s 40) (fun h => isSg_lt h)) ?_ ?_ ?_
 ·decide
 ·simp only [tt, seval, PB]
 rintro r os ⟨rfl, rfl⟩ hos
 simp only [tt, seval, PB]
 cases cl : isSg L s 40 with
 | true =>
  obtain ⟨hb, hlt⟩ := isSg_lt cl
  rw [if_pos cl] at h
  have ha1 := adv_le (L := L) (isSg_lt cl)
  have hb1 : (adv s).b = false := hb
  split at h
  ·cases h
  ·rename_i x t hx
   injection h with h; injection h with h1 h2; subst h1 h2
   have o2 := ok1 _ _ _ hx
   obtain ⟨k0, o0, n0, v0, q0, m0, ks0, ss0⟩ := x
   have c := hf _ _ _ hx ha1
   rw [Expr.row_mk] at c
   simp only [tt, seval, tkT, tkF, muT, muF, hb1]
   have e0 : PB L (adv s) = [.sl L.length (L.flatMap Tok.row) none, .v (.int .i64 (adv s).a), .v (.bool false)] := by rw [PB, hb1]
   rw [e0] at c
   refine CallQ.intro (c) ?_ ?_ ?_
   ·decide
   ·simp only [tt, seval, PB, Val.row]
   rintro r os ⟨rfl, rfl⟩ hos
   simp only [tt, seval, PB, Val.row]
   refine CallQ.intro (l12SignC_d L hL hT t 41 (o2.2.1 ha1)) ?_ ?_ ?_
   ·decide
   ·simp only [tt, seval, PB]
   rintro r os ⟨rfl, rfl⟩ hos
   simp only [tt, seval, PB]
   refine CallQ.intro (l12Step_d L hL hT t (isSg L t 41) (fun h => isSg_lt h)) ?_ ?_ ?_
   ·decide
   ·simp only [tt, seval, PB]
   rintro r os ⟨rfl, rfl⟩ hos
   simp only [tt, seval, PB]
   refine ⟨.ag (csOf (Expr.mk k0 o0 n0 v0 q0 m0 ks0 ss0).row), [PB L (must (isSg L t 41) t)], ⟨rfl, rfl⟩, endOk ?_⟩
   simp only [tt, seval, bae, PB, mLit, mCol, mKids, mUn, mBin, zExpr, zVal, z0, Expr.row_mk, Query.row_mk, List.flatMap_nil, List.flatMap_cons, List.append_nil, List.length_nil, List.length_cons, Val.row]
 | false =>
  rw [if_neg (by rw [cl]; simp), if_neg (by rw [c19]; simp)] at h
  injection h with h; injection h with h1 h2; subst h1 h2
  simp only [tt, seval, tkT, tkF, muT, muF, fl]
  refine ⟨.ag (csOf (zExpr).row), [PB L (fl s)], ⟨rfl, rfl⟩, endOk ?_⟩
  simp only [tt, seval, bae, PB, mLit, mCol, mKids, mUn, mBin, zExpr, zVal, z0, Expr.row_mk, Query.row_mk, List.flatMap_nil, List.flatMap_cons, List.append_nil, List.length_nil, List.length_cons, fl]
def atS (Lo : Ob) : Nat := match Go.Dv.look Lo 9000 with | some (.str [_, .v (.int _ a), _]) => a.toNat | _ => 0
theorem ex_snoc (l : List Expr) (k0 o0 : Int) (n0 : Bool) (v0 : Val) (q0 m0 : ByteArray) (ks0 : List Expr) (ss0 : List Query) : l.flatMap Expr.row ++ [int k0, int o0, bool n0, int v0.kind, int v0.num, str v0.text, str q0, str m0, .sl ks0.length (ks0.flatMap Expr.row), .sl ss0.length (ss0.flatMap Query.row)] = (l ++ [Expr.mk k0 o0 n0 v0 q0 m0 ks0 ss0]).flatMap Expr.row := by
 rw [List.flatMap_append, List.flatMap_cons, List.flatMap_nil, List.append_nil, Expr.row_mk]
theorem ex_snoc1 (X : List D) (l : List Expr) (k0 o0 : Int) (n0 : Bool) (v0 : Val) (q0 m0 : ByteArray) (ks0 : List Expr) (ss0 : List Query) : X ++ l.flatMap Expr.row ++ [int k0, int o0, bool n0, int v0.kind, int v0.num, str v0.text, str q0, str m0, .sl ks0.length (ks0.flatMap Expr.row), .sl ss0.length (ss0.flatMap Query.row)] = X ++ (l ++ [Expr.mk k0 o0 n0 v0 q0 m0 ks0 ss0]).flatMap Expr.row := by
 rw [List.append_assoc, ex_snoc]
theorem ex_two (k0 o0 : Int) (n0 : Bool) (v0 : Val) (q0 m0 : ByteArray) (ks0 : List Expr) (ss0 : List Query) (k1 o1 : Int) (n1 : Bool) (v1 : Val) (q1 m1 : ByteArray) (ks1 : List Expr) (ss1 : List Query) : ([int k0, int o0, bool n0, int v0.kind, int v0.num, str v0.text, str q0, str m0, .sl ks0.length (ks0.flatMap Expr.row), .sl ss0.length (ss0.flatMap Query.row), int k1, int o1, bool n1, int v1.kind, int v1.num, str v1.text, str q1, str m1, .sl ks1.length (ks1.flatMap Expr.row), .sl ss1.length (ss1.flatMap Query.row)] : List D) = ([Expr.mk k0 o0 n0 v0 q0 m0 ks0 ss0, Expr.mk k1 o1 n1 v1 q1 m1 ks1 ss1]).flatMap Expr.row := by
 rw [List.flatMap_cons, List.flatMap_cons, List.flatMap_nil, List.append_nil, Expr.row_mk, Expr.row_mk]; rfl
set_option maxHeartbeats 1000000 in
theorem l12Within_step (L : List Tok) (hL : L.length ≤ 1048576) (hT : ∀ t ∈ L, t.text.size ≤ 1048576) {f : Nat → PM Expr} {q : PM Query} (ok1 : OkM (L := L) (f 1)) (okq : OkM (L := L) q) (hf : SpE L 39 [vi 1] (f 1)) (hq : SpQ L 53 q) (e : Expr) (not : Bool) : SpE L 151 [.ag (csOf e.row), vb not] (inM L f q e not) := by
 intro s x s' h ha
 unfold inM at h
 simp only at h
 have o1 : Ok L s (must (isSg L s 40) s) := Ok.must fun h => isSg_lt h
 have ha1 := o1.2.1 ha
 obtain ⟨k1, p1, n1, v1, q1, m1, ks1, ss1⟩ := e
 rw [Expr.row_mk]
 refine cl_of_d follows_mixed false Tryz.func151 rfl (by kernel_rfl) ?_
 simp only [Tryz.f151, tt, seval]
 refine CallQ.intro (l12SignC_d L hL hT s 40 ha) ?_ ?_ ?_
 ·decide
 ·simp only [tt, seval, PB, Val.row]
 rintro r os ⟨rfl, rfl⟩ hos
 simp only [tt, seval, PB, Val.row]
 refine CallQ.intro (l12Step_d L hL hT s (isSg L s 40) (fun h => isSg_lt h)) ?_ ?_ ?_
 ·decide
 ·simp only [tt, seval, PB]
 rintro r os ⟨rfl, rfl⟩ hos
 simp only [tt, seval, PB]
 generalize must (isSg L s 40) s = u at *
 refine CallQ.intro (l12Key_d L hL hT u 1 (by omega) (by omega) ha1) ?_ ?_ ?_
 ·decide
 ·simp only [tt, seval, PB]
 rintro r os ⟨rfl, rfl⟩ hos
 simp only [tt, seval, PB]
 cases c1 : isKey L u 1 with
 | true =>
  rw [if_pos c1] at h
  split at h
  ·cases h
  ·rename_i y t hy
   injection h with h; injection h with h1 h2; subst h1 h2
   have o2 := okq _ _ _ hy
   obtain ⟨d, its, frs, whs, ods, lim⟩ := y
   have c := hq _ _ _ hy ha1
   rw [Query.row_mk] at c
   simp only [tt, seval]
   refine CallQ.intro (c) ?_ ?_ ?_
   ·decide
   ·simp only [tt, seval, PB]
   rintro r os ⟨rfl, rfl⟩ hos
   simp only [tt, seval, PB]
   refine CallQ.intro (l12SignC_d L hL hT t 41 (o2.2.1 ha1)) ?_ ?_ ?_
   ·decide
   ·simp only [tt, seval, PB]
   rintro r os ⟨rfl, rfl⟩ hos
   simp only [tt, seval, PB]
   refine CallQ.intro (l12Step_d L hL hT t (isSg L t 41) (fun h => isSg_lt h)) ?_ ?_ ?_
   ·decide
   ·simp only [tt, seval, PB]
   rintro r os ⟨rfl, rfl⟩ hos
   simp only [tt, seval, PB]
   refine ⟨.ag (csOf (mKids 8 not [Expr.mk k1 p1 n1 v1 q1 m1 ks1 ss1] [.mk d its frs whs ods lim]).row), [PB L (must (isSg L t 41) t)], ⟨rfl, rfl⟩, endOk ?_⟩
   simp only [tt, seval, bae, PB, mLit, mCol, mKids, mUn, mBin, zExpr, zVal, z0, Expr.row_mk, Query.row_mk, List.flatMap_nil, List.flatMap_cons, List.append_nil, List.length_nil, List.length_cons, Val.row]
 | false =>
  rw [if_neg (by rw [c1]; simp)] at h
  unfold orsM at h
  split at h
  ·cases h
  rename_i l t hl
  split at hl
  ·cases hl
  rename_i y u1 hy
  injection h with h; injection h with h1 h2; subst h1 h2
  simp only [tt, seval, Bool.false_eq_true]
  have o2 := ok1 _ _ _ hy
  have ha2 := o2.2.1 ha1
  obtain ⟨k0, o0, n0, v0, q0, m0, ks0, ss0⟩ := y
  have c := hf _ _ _ hy ha1
  rw [Expr.row_mk] at c
  apply dDrawn_j4 8 0 2 6
  case h1 =>
   refine dDrawn.intro [29] (.take 1 (.br 0 (.br 2 (.br 3 (.take 4 .done) .nobr) .nobr) (.br 2 (.take 0 (.br 3 (.take 4 .done) .nobr)) .nobr))) (by kernel_rfl) ?_
   simp only [tt, seval]
   all_goals repeat' first | refine brC ?_ ?_ | refine brC2 ?_ ?_
   all_goals
    refine CallQ.intro (c) ?_ ?_ ?_
    ·decide
    ·simp only [tt, seval, PB, Val.row]
     try decide
    rintro r os ⟨rfl, rfl⟩ hos
    simp only [tt, seval, PB, Val.row]
   all_goals exact ⟨rfl, rfl, rfl, rfl, rfl, rfl⟩
  case h2 =>
   intro f' hj0 hj1 hj2 hj3
   try simp only [tt, seval, hj0, hj1, hj2, hj3]
   rw [ex_two k1 p1 n1 v1 q1 m1 ks1 ss1 k0 o0 n0 v0 q0 m0 ks0 ss0]
   refine dLoop.gh [.ren 30 39] ⟨by decide, by decide, ?_⟩
   refine dLoop0.intro (fun f' Lo p => ∃ (m : List Expr) (v : PS) (n : Nat), f' 8 = .c (.s 39 ((Expr.mk k1 p1 n1 v1 q1 m1 ks1 ss1) :: m).length) ∧ sepM L (f 1) n m v = some (l, t) ∧ v.a ≤ L.length ∧ m.length ≤ v.a + 1 ∧ Lo = [(9000, .str (PB L v)), (39, .arr 29 ((Expr.mk k1 p1 n1 v1 q1 m1 ks1 ss1) :: m).length (((Expr.mk k1 p1 n1 v1 q1 m1 ks1 ss1) :: m).flatMap Expr.row) none), (6, .str [.v (.int .i64 0), .v (.int .i64 0), .v (.bool false), .v (.int .i64 0), .v (.int .i64 0), .v (.string ByteArray.empty), .v (.string ByteArray.empty), .v (.string ByteArray.empty), .v (.slice none 0 0), .v (.slice none 0 0)])] ∧ p = none) (fun _ Lo _ => L.length - atS Lo) [(9000, .str (PB L u1)), (39, .arr 29 ([(Expr.mk k1 p1 n1 v1 q1 m1 ks1 ss1), (Expr.mk k0 o0 n0 v0 q0 m0 ks0 ss0)]).length (([(Expr.mk k1 p1 n1 v1 q1 m1 ks1 ss1), (Expr.mk k0 o0 n0 v0 q0 m0 ks0 ss0)]).flatMap Expr.row) none), (6, .str [.v (.int .i64 0), .v (.int .i64 0), .v (.bool false), .v (.int .i64 0), .v (.int .i64 0), .v (.string ByteArray.empty), .v (.string ByteArray.empty), .v (.string ByteArray.empty), .v (.slice none 0 0), .v (.slice none 0 0)])] none ⟨SubO.cons rfl (SubO.cons rfl (SubO.cons rfl (SubO.nil _))), PoSub.none _, ?_⟩ ?_
   ·simp only [tt, seval, hj0]
    exact ⟨[(Expr.mk k0 o0 n0 v0 q0 m0 ks0 ss0)], u1, L.length + 1, rfl, hl, ha2, by simp, rfl⟩
   ·rintro g' Lo p ⟨m, v, n, h8, hm, hv, hml, rfl, rfl⟩
    simp only [tt, seval] at h8
    try simp only [tt, seval, h8, hj1, hj2, hj3]
    refine CallQ.intro (l12SignC_d L hL hT v 44 hv) ?_ ?_ ?_
    ·decide
    ·simp only [tt, seval, PB, h8, hj1, hj2, hj3]
    rintro r os ⟨rfl, rfl⟩ hos
    simp only [tt, seval, PB, h8, hj1, hj2, hj3]
    cases n with
    | zero => cases hm
    | succ n =>
    rw [sepM] at hm
    cases c44 : isSg L v 44 with
    | true =>
     rw [if_pos c44] at hm
     split at hm
     ·cases hm
     rename_i z w hz
     obtain ⟨hb, hlt⟩ := isSg_lt c44
     have hav := adv_le (L := L) (isSg_lt c44)
     have o3 := ok1 _ _ _ hz
     have o3a : v.a + 1 ≤ w.a := o3.1
     have hw := o3.2.1 hav
     obtain ⟨k2, o2', n2, v2, q2, m2, ks2, ss2⟩ := z
     have c2 := hf _ _ _ hz hav
     rw [Expr.row_mk] at c2
     simp only [tt, seval, h8, hj1, hj2, hj3]
     refine CallQ.intro (l12Step_d L hL hT v true (fun _ => isSg_lt c44)) ?_ ?_ ?_
     ·decide
     ·simp only [tt, seval, PB, muT, h8, hj1, hj2, hj3]
     rintro r os ⟨rfl, rfl⟩ hos
     simp only [tt, seval, PB, muT, h8, hj1, hj2, hj3]
     refine CallQ.intro (c2) ?_ ?_ ?_
     ·decide
     ·simp only [tt, seval, PB, h8, hj1, hj2, hj3, Val.row]
     rintro r os ⟨rfl, rfl⟩ hos
     simp only [tt, seval, PB, h8, hj1, hj2, hj3, Val.row]
     refine ⟨by kernel_rfl, ⟨by simp only [maxLen]; omega, by omega⟩, ?_⟩
     rw [ex_snoc1, show m.length + 1 + 1 = (m ++ [Expr.mk k2 o2' n2 v2 q2 m2 ks2 ss2]).length + 1 by simp]
     exact ⟨_, none, SubO.cons rfl (SubO.cons rfl (SubO.cons rfl (SubO.nil _))), PoSub.none _, ⟨m ++ [Expr.mk k2 o2' n2 v2 q2 m2 ks2 ss2], w, n, rfl, hm, hw, by simp; omega, rfl, rfl⟩, by show L.length - ((w.a : Int)).toNat < L.length - ((v.a : Int)).toNat; omega⟩
    | false =>
     rw [if_neg (by rw [c44]; simp)] at hm
     injection hm with hm; injection hm with e1 e2; subst e1 e2
     simp only [tt, seval, Bool.false_eq_true, h8, hj1, hj2, hj3]
     refine CallQ.intro (l12SignC_d L hL hT v 41 hv) ?_ ?_ ?_
     ·decide
     ·simp only [tt, seval, PB, h8, hj1, hj2, hj3]
     rintro r os ⟨rfl, rfl⟩ hos
     simp only [tt, seval, PB, h8, hj1, hj2, hj3]
     refine CallQ.intro (l12Step_d L hL hT v (isSg L v 41) (fun h => isSg_lt h)) ?_ ?_ ?_
     ·decide
     ·simp only [tt, seval, PB, h8, hj1, hj2, hj3]
     rintro r os ⟨rfl, rfl⟩ hos
     simp only [tt, seval, PB, h8, hj1, hj2, hj3]
     refine ⟨.ag (csOf (mKids 7 not ((Expr.mk k1 p1 n1 v1 q1 m1 ks1 ss1) :: m) []).row), [PB L (must (isSg L v 41) v)], ⟨rfl, rfl⟩, endOk ?_⟩
     simp only [tt, seval, bae, PB, mLit, mCol, mKids, mUn, mBin, zExpr, zVal, z0, Expr.row_mk, Query.row_mk, List.flatMap_nil, List.flatMap_cons, List.append_nil, List.length_nil, List.length_cons, Val.row]
def gT (s : ByteArray) : Tok := ⟨5, s, 0⟩
def iT (n : Int) : Tok := ⟨3, itoaB n, 0⟩
def opTk (op : Int) : Tok := ⟨if op = 1 ∨ op = 2 ∨ op = 15 then 1 else 5, opT op, 0⟩
theorem len1 (l : List Tok) (t : Tok) : l.length + 1 = (l ++ [t]).length := by simp
theorem len2 (l : List Tok) (t u : Tok) : l.length + 2 = (l ++ [t, u]).length := by simp
theorem agE {a b : Tok} (h : a = b) : (S.ag (csOf a.row) : S) = .ag (csOf b.row) := by rw [h]
theorem l10Sign_d (s : ByteArray) : Cl Tryz.prog 221 [vs s] [] fun r _ => r = .ag (csOf (gT s).row) := by
 refine cl_of_d follows_mixed false Tryz.func221 rfl (by kernel_rfl) ?_
 simp only [Tryz.f221, tt, seval]
 exact ⟨_, _, rfl, end0 rfl⟩
theorem l10Op_d (op : Int) : Cl Tryz.prog 157 [vi op] [] fun r _ => r = .ag (csOf (opTk op).row) := by
 refine cl_of_d follows_mixed false Tryz.func157 rfl (by kernel_rfl) ?_
 simp only [Tryz.f157, tt, seval]
 by_cases h1 : op = 1
 ·simp only [tt, seval, decide_eq_true h1]
  refine call0 (OpText_d op) ?_ ?_ ?_
  ·decide
  ·simp only [tt, seval]
  rintro r rfl
  simp only [tt, seval]
  exact ⟨_, _, agE (by rw [opTk, if_pos (.inl h1)]), end0 rfl⟩
 simp only [tt, seval, decide_eq_false h1]
 by_cases h2 : op = 2
 ·simp only [tt, seval, decide_eq_true h2]
  refine call0 (OpText_d op) ?_ ?_ ?_
  ·decide
  ·simp only [tt, seval]
  rintro r rfl
  simp only [tt, seval]
  exact ⟨_, _, agE (by rw [opTk, if_pos (.inr (.inl h2))]), end0 rfl⟩
 simp only [tt, seval, decide_eq_false h2]
 refine And.intro (fun h3 => ?_) (fun h3 => ?_)
 ·skip
  refine call0 (OpText_d op) ?_ ?_ ?_
  ·decide
  ·simp only [tt, seval]
  rintro r rfl
  simp only [tt, seval]
  exact ⟨_, _, agE (by rw [opTk, if_pos (.inr (.inr h3))]), end0 rfl⟩
 try simp only [tt, seval]
 refine call0 (OpText_d op) ?_ ?_ ?_
 ·decide
 ·simp only [tt, seval]
 rintro r rfl
 simp only [tt, seval]
 refine call0 (l10Sign_d (opT op)) ?_ ?_ ?_
 ·decide
 ·simp only [tt, seval, gT, Tok.row]
 rintro r rfl
 simp only [tt, seval, gT, Tok.row]
 exact ⟨_, _, agE (by rw [opTk, if_neg (fun h => h.elim h1 fun h => h.elim h2 h3)]), end0 rfl⟩
theorem opsL_eq : ∀ w ∈ [1, 2, 4, 5, 6, 7], opsL w = (List.range' 1 14).filter (fun k : Nat => decide (bl (k : Int) = (w : Int))) := by decide +kernel
theorem lvE_bin (op : Int) (n : Bool) (v : Val) (q m : ByteArray) (ks : List Expr) (ss : List Query) : lvE (Expr.mk 4 op n v q m ks ss) = bl op := by simp [lvE, Expr.kind, Expr.op, lv]
theorem opTk_kind (op : Nat) (h : op ≤ 14) : (opTk (op : Int)).kind = if op = 1 ∨ op = 2 then 1 else 5 := by
 unfold opTk
 simp only
 by_cases h1 : op = 1 ∨ op = 2
 ·rw [if_pos h1, if_pos (by omega)]
 ·rw [if_neg h1, if_neg (by omega)]
theorem nx_op (L : List Tok) (s : PS) (op : Nat) (h : op ≤ 14) : (decide ((nxT L s 0).kind = (opTk (op : Int)).kind) && decide ((nxT L s 0).text = (opTk (op : Int)).text)) = opHit L s op := by
 rw [opTk_kind op h, opHit, nx_T L s 0 _ _ (by split <;> decide)]
 rfl
theorem wr1 {n : Nat} (h : n ≤ 1048576) : IntKind.i64.wrap ((n : Int) + 1) = ((n + 1 : Nat) : Int) := wrap_id (n := (n : Int) + 1) (by omega) (by omega)
theorem opF_no {L : List Tok} {s : PS} {w op : Nat} (h : op ≤ 14) (hb : ¬ bl (op : Int) = (w : Int)) : opIn L s ((List.range' op (15 - op)).filter (fun k : Nat => decide (bl (k : Int) = (w : Int)))) = opIn L s ((List.range' (op + 1) (15 - (op + 1))).filter (fun k : Nat => decide (bl (k : Int) = (w : Int)))) := by
 rw [show 15 - op = 15 - (op + 1) + 1 by omega, List.range'_succ, List.filter_cons, if_neg (by simpa using hb)]
theorem opF_yes {L : List Tok} {s : PS} {w op : Nat} (h : op ≤ 14) (hb : bl (op : Int) = (w : Int)) : opIn L s ((List.range' op (15 - op)).filter (fun k : Nat => decide (bl (k : Int) = (w : Int)))) = if opHit L s op = true then op else opIn L s ((List.range' (op + 1) (15 - (op + 1))).filter (fun k : Nat => decide (bl (k : Int) = (w : Int)))) := by
 rw [show 15 - op = 15 - (op + 1) + 1 by omega, List.range'_succ, List.filter_cons, if_pos (by simpa using hb), opIn]
set_option maxHeartbeats 1000000 in
theorem l12Op_d (L : List Tok) (hL : L.length ≤ 1048576) (hT : ∀ t ∈ L, t.text.size ≤ 1048576) (s : PS) (w : Nat) (hw : w ∈ [1, 2, 4, 5, 6, 7]) (ha : s.a ≤ L.length) : Cl Tryz.prog 91 [.c (.p 9000 0), vi w] [PB L s] fun r os => r = vi (opAt L s w) ∧ os = [PB L s] := by
 have ho : opAt L s w = opIn L s ((List.range' 1 (15 - 1)).filter (fun k : Nat => decide (bl (k : Int) = (w : Int)))) := by rw [opAt, opsL_eq w hw]
 refine cl_of_d follows_mixed false Tryz.func91 rfl (by kernel_rfl) ?_
 simp only [Tryz.f91, tt, seval]
 refine dLoop.intro (fun f' Lo p => ∃ op : Nat, f' 5 = vi op ∧ 1 ≤ op ∧ op ≤ 15 ∧ opAt L s w = opIn L s ((List.range' op (15 - op)).filter (fun k : Nat => decide (bl (k : Int) = (w : Int)))) ∧ Lo = [(9000, .str (PB L s))] ∧ p = none) (fun f' _ _ => (15 - ixS (f' 5)).toNat) [(9000, .str (PB L s))] none ⟨SubO.cons rfl (SubO.nil _), PoSub.none _, ?_⟩ ?_
 ·simp only [tt, seval]
  exact ⟨1, rfl, by omega, by omega, ho⟩
 ·rintro g' Lo p ⟨op, h5, h1, h2, hop, rfl, rfl⟩
  simp only [tt, seval] at h5
  by_cases hle : op ≤ 14
  ·have e0 : ((op : Int) ≤ 14) = True := eq_true (by omega)
   simp only [tt, seval, h5, e0]
   refine call0 (LevelOf_d (Expr.mk 4 op false zVal z0 z0 [] [])) ?_ ?_ ?_
   ·decide
   ·simp only [tt, seval, lvE_bin, Expr.row_mk, zVal, z0, bae, Val.row, List.flatMap_nil, List.length_nil, h5]
   rintro r rfl
   simp only [tt, seval, lvE_bin, Expr.row_mk, zVal, z0, bae, Val.row, List.flatMap_nil, List.length_nil, h5]
   by_cases hb : bl (op : Int) = (w : Int)
   ·have hop := hop.trans (opF_yes hle hb)
    simp only [tt, seval, decide_eq_true hb, hb, h5]
    refine call0 (l10Op_d op) ?_ ?_ ?_
    ·decide
    ·simp only [tt, seval, Tok.row, h5]
    rintro r rfl
    simp only [tt, seval, Tok.row, h5]
    refine CallQ.intro (l12Next_d L hL hT s 0 (by omega) ha) ?_ ?_ ?_
    ·decide
    ·simp only [tt, seval, PB, Tok.row, h5]
    rintro r os ⟨rfl, rfl⟩ hos
    simp only [tt, seval, PB, Tok.row, h5]
    have hh := nx_op L s op hle
    refine And.intro (fun hk => ?_) (fun hk => ?_)
    ·rw [hk, Bool.true_and] at hh
     simp only [tt, seval, hk, h5]
     by_cases hx : (nxT L s 0).text = (opTk (op : Int)).text
     ·rw [decide_eq_true hx] at hh
      simp only [tt, seval, hx, decide_eq_true, h5]
      refine ⟨vi op, [PB L s], ⟨by rw [hop, if_pos hh.symm], rfl⟩, endOk ?_⟩
      simp only [tt, seval, PB]
     ·rw [decide_eq_false hx] at hh
      rw [if_neg (by rw [← hh]; simp)] at hop
      simp only [tt, seval, hx, decide_eq_false, h5]
      refine ⟨[(9000, .str (PB L s))], none, SubO.cons rfl (SubO.nil _), PoSub.none _, ⟨op + 1, by rw [wr1 (n := op) (by omega)], by omega, by omega, hop, rfl, rfl⟩, ?_⟩
      rw [wr1 (n := op) (by omega)]
      show (15 - ((op + 1 : Nat) : Int)).toNat < (15 - (op : Int)).toNat
      omega
    ·rw [hk, Bool.false_and] at hh
     rw [if_neg (by rw [← hh]; simp)] at hop
     simp only [tt, seval, hk, h5]
     refine ⟨[(9000, .str (PB L s))], none, SubO.cons rfl (SubO.nil _), PoSub.none _, ⟨op + 1, by rw [wr1 (n := op) (by omega)], by omega, by omega, hop, rfl, rfl⟩, ?_⟩
     rw [wr1 (n := op) (by omega)]
     show (15 - ((op + 1 : Nat) : Int)).toNat < (15 - (op : Int)).toNat
     omega
   ·have hop := hop.trans (opF_no hle hb)
    simp only [tt, seval, decide_eq_false hb, hb, h5]
    refine ⟨[(9000, .str (PB L s))], none, SubO.cons rfl (SubO.nil _), PoSub.none _, ⟨op + 1, by rw [wr1 (n := op) (by omega)], by omega, by omega, hop, rfl, rfl⟩, ?_⟩
    rw [wr1 (n := op) (by omega)]
    show (15 - ((op + 1 : Nat) : Int)).toNat < (15 - (op : Int)).toNat
    omega
  ·have e0 : ((op : Int) ≤ 14) = False := eq_false (by omega)
   simp only [tt, seval, h5, e0]
   have e : opAt L s w = 0 := by rw [hop, show 15 - op = 0 by omega]; rfl
   refine ⟨vi 0, [PB L s], ⟨by rw [e]; rfl, rfl⟩, endOk ?_⟩
   simp only [tt, seval, PB]
set_option maxHeartbeats 2000000 in
theorem l12Cmp_step (L : List Tok) (hL : L.length ≤ 1048576) (hT : ∀ t ∈ L, t.text.size ≤ 1048576) {f : Nat → PM Expr} {q : PM Query} (ok : ∀ lv, OkM (L := L) (f lv)) (okq : OkM (L := L) q) (hf1 : SpE L 39 [vi 1] (f 1)) (hf5 : SpE L 39 [vi 5] (f 5)) (hq : SpQ L 53 q) : SpE L 87 [] (cmpM L f q) := by
 intro s x s' h ha
 unfold cmpM at h
 split at h
 ·cases h
 rename_i e s1 he
 have o1 := ok 5 _ _ _ he
 have ha1 := o1.2.1 ha
 obtain ⟨k1, p1, n1, v1, q1, m1, ks1, ss1⟩ := e
 have c1 := hf5 _ _ _ he ha
 rw [Expr.row_mk] at c1
 refine cl_of_d follows_mixed false Tryz.func87 rfl (by kernel_rfl) ?_
 simp only [Tryz.f87, tt, seval]
 refine CallQ.intro (c1) ?_ ?_ ?_
 ·decide
 ·simp only [tt, seval, PB, Val.row]
 rintro r os ⟨rfl, rfl⟩ hos
 simp only [tt, seval, PB, Val.row]
 refine CallQ.intro (l12Op_d L hL hT s1 4 (by decide) ha1) ?_ ?_ ?_
 ·decide
 ·simp only [tt, seval, PB]
 rintro r os ⟨rfl, rfl⟩ hos
 simp only [tt, seval, PB]
 by_cases hop : opAt L s1 4 = 0
 ·have e0 : ((0 : Int) < ((opAt L s1 4 : Nat) : Int)) = False := eq_false (by omega)
  rw [if_pos hop] at h
  unfold cmpT at h
  simp only at h
  simp only [tt, seval, e0]
  refine CallQ.intro (l12Maybe_d L hL hT s1 16 (by omega) (by omega) ha1) ?_ ?_ ?_
  ·decide
  ·simp only [tt, seval, PB]
  rintro r os ⟨rfl, rfl⟩ hos
  simp only [tt, seval, PB]
  cases c16 : isKey L s1 16 with
  | true =>
   rw [if_pos c16] at h
   injection h with h; injection h with h1 h2; subst h1 h2
   simp only [tt, seval, tkT, tkF, muT, muF]
   have ha2 := adv_le (L := L) (isKey_lt c16)
   refine CallQ.intro (l12Maybe_d L hL hT (adv s1) 15 (by omega) (by omega) ha2) ?_ ?_ ?_
   ·decide
   ·simp only [tt, seval, PB]
   rintro r os ⟨rfl, rfl⟩ hos
   simp only [tt, seval, PB]
   have o3 : Ok L (adv s1) (tkIf (isKey L (adv s1) 15) (adv s1)) := Ok.tkIf fun h => isKey_lt h
   have ha3 := o3.2.1 ha2
   generalize tkIf (isKey L (adv s1) 15) (adv s1) = u at *
   refine CallQ.intro (l12Key_d L hL hT u 20 (by omega) (by omega) ha3) ?_ ?_ ?_
   ·decide
   ·simp only [tt, seval, PB]
   rintro r os ⟨rfl, rfl⟩ hos
   simp only [tt, seval, PB]
   refine CallQ.intro (l12Step_d L hL hT u (isKey L u 20) (fun h => isKey_lt h)) ?_ ?_ ?_
   ·decide
   ·simp only [tt, seval, PB]
   rintro r os ⟨rfl, rfl⟩ hos
   simp only [tt, seval, PB]
   refine ⟨.ag (csOf (mKids 5 (isKey L (adv s1) 15) [(Expr.mk k1 p1 n1 v1 q1 m1 ks1 ss1)] []).row), [PB L (must (isKey L u 20) u)], ⟨rfl, rfl⟩, endOk ?_⟩
   simp only [tt, seval, bae, PB, mLit, mCol, mKids, mUn, mBin, zExpr, zVal, z0, Expr.row_mk, Query.row_mk, List.flatMap_nil, List.flatMap_cons, List.append_nil, List.length_nil, List.length_cons, Val.row]
  | false =>
  rw [if_neg (by rw [c16]; simp)] at h
  simp only [tt, seval, tkT, tkF, muT, muF, Bool.false_eq_true]
  refine CallQ.intro (l12Maybe_d L hL hT s1 15 (by omega) (by omega) ha1) ?_ ?_ ?_
  ·decide
  ·simp only [tt, seval, PB]
  rintro r os ⟨rfl, rfl⟩ hos
  simp only [tt, seval, PB]
  have o2 : Ok L s1 (tkIf (isKey L s1 15) s1) := Ok.tkIf fun h => isKey_lt h
  have ha2 := o2.2.1 ha1
  generalize tkIf (isKey L s1 15) s1 = u at *
  generalize isKey L s1 15 = n at *
  refine CallQ.intro (l12Maybe_d L hL hT u 18 (by omega) (by omega) ha2) ?_ ?_ ?_
  ·decide
  ·simp only [tt, seval, PB]
  rintro r os ⟨rfl, rfl⟩ hos
  simp only [tt, seval, PB]
  cases c18 : isKey L u 18 with
  | true =>
   rw [if_pos c18] at h
   split at h
   ·cases h
   rename_i lo s2 hlo
   split at h
   ·cases h
   rename_i hi s3 hhi
   injection h with h; injection h with h1 h2; subst h1 h2
   simp only [tt, seval, tkT, tkF, muT, muF]
   have ha3 := adv_le (L := L) (isKey_lt c18)
   have ha4 := (ok 5 _ _ _ hlo).2.1 ha3
   obtain ⟨k2, p2, n2, v2, q2, m2, ks2, ss2⟩ := lo
   have c2 := hf5 _ _ _ hlo ha3
   rw [Expr.row_mk] at c2
   refine CallQ.intro (c2) ?_ ?_ ?_
   ·decide
   ·simp only [tt, seval, PB, Val.row]
   rintro r os ⟨rfl, rfl⟩ hos
   simp only [tt, seval, PB, Val.row]
   refine CallQ.intro (l12Key_d L hL hT s2 13 (by omega) (by omega) ha4) ?_ ?_ ?_
   ·decide
   ·simp only [tt, seval, PB]
   rintro r os ⟨rfl, rfl⟩ hos
   simp only [tt, seval, PB]
   refine CallQ.intro (l12Step_d L hL hT s2 (isKey L s2 13) (fun h => isKey_lt h)) ?_ ?_ ?_
   ·decide
   ·simp only [tt, seval, PB]
   rintro r os ⟨rfl, rfl⟩ hos
   simp only [tt, seval, PB]
   have o5 : Ok L s2 (must (isKey L s2 13) s2) := Ok.must fun h => isKey_lt h
   have ha5 := o5.2.1 ha4
   generalize must (isKey L s2 13) s2 = w at *
   obtain ⟨k3, p3, n3, v3, q3, m3, ks3, ss3⟩ := hi
   have c3 := hf5 _ _ _ hhi ha5
   rw [Expr.row_mk] at c3
   apply dDrawn_j1 2
   case h1 =>
    refine dDrawn.intro [48] (.take 0 (.take 3 (.br 1 (.br 2 (.br 4 (.br 5 (.take 6 (.br 7 .done .nobr)) .nobr) .nobr) (.br 4 (.take 2 (.br 5 (.take 6 (.br 7 .done .nobr)) .nobr)) .nobr)) (.br 2 (.br 1 (.br 4 (.br 5 (.take 6 (.br 7 .done .nobr)) .nobr) .nobr) (.br 4 (.take 1 (.br 5 (.take 6 (.br 7 .done .nobr)) .nobr)) .nobr)) (.br 4 (.take 1 (.take 2 (.br 5 (.take 6 (.br 7 .done .nobr)) .nobr))) .nobr))))) (by kernel_rfl) ?_
    simp only [tt, seval]
    all_goals repeat' first | refine brC ?_ ?_ | refine brC2 ?_ ?_
    all_goals
     refine CallQ.intro (c3) ?_ ?_ ?_
     ·decide
     ·simp only [tt, seval, PB, Val.row]
      try decide
     rintro r os ⟨rfl, rfl⟩ hos
     simp only [tt, seval, PB, Val.row]
    all_goals exact ⟨rfl, rfl, rfl⟩
   case h2 =>
    intro f' hj0
    try simp only [tt, seval, hj0]
    refine ⟨.ag (csOf (mKids 6 n [(Expr.mk k1 p1 n1 v1 q1 m1 ks1 ss1), (Expr.mk k2 p2 n2 v2 q2 m2 ks2 ss2), (Expr.mk k3 p3 n3 v3 q3 m3 ks3 ss3)] []).row), [PB L (s3)], ⟨rfl, rfl⟩, endOk ?_⟩
    simp only [tt, seval, bae, PB, mLit, mCol, mKids, mUn, mBin, zExpr, zVal, z0, Expr.row_mk, Query.row_mk, List.flatMap_nil, List.flatMap_cons, List.append_nil, List.length_nil, List.length_cons, Val.row, hj0]
  | false =>
  rw [if_neg (by rw [c18]; simp)] at h
  simp only [tt, seval, tkT, tkF, muT, muF, Bool.false_eq_true]
  refine CallQ.intro (l12Maybe_d L hL hT u 17 (by omega) (by omega) ha2) ?_ ?_ ?_
  ·decide
  ·simp only [tt, seval, PB]
  rintro r os ⟨rfl, rfl⟩ hos
  simp only [tt, seval, PB]
  cases c17 : isKey L u 17 with
  | true =>
   rw [if_pos c17] at h
   simp only [tt, seval, tkT, tkF, muT, muF]
   have ha3 := adv_le (L := L) (isKey_lt c17)
   have c2 := l12Within_step L hL hT (ok 1) okq hf1 hq (Expr.mk k1 p1 n1 v1 q1 m1 ks1 ss1) n _ _ _ h ha3
   obtain ⟨k2, p2, n2, v2, q2, m2, ks2, ss2⟩ := x
   rw [Expr.row_mk, Expr.row_mk] at c2
   refine CallQ.intro (c2) ?_ ?_ ?_
   ·decide
   ·simp only [tt, seval, PB, Val.row]
   rintro r os ⟨rfl, rfl⟩ hos
   simp only [tt, seval, PB, Val.row]
   refine ⟨.ag (csOf ((Expr.mk k2 p2 n2 v2 q2 m2 ks2 ss2)).row), [PB L (s')], ⟨rfl, rfl⟩, endOk ?_⟩
   simp only [tt, seval, bae, PB, mLit, mCol, mKids, mUn, mBin, zExpr, zVal, z0, Expr.row_mk, Query.row_mk, List.flatMap_nil, List.flatMap_cons, List.append_nil, List.length_nil, List.length_cons, Val.row]
  | false =>
  rw [if_neg (by rw [c17]; simp)] at h
  injection h with h; injection h with h1 h2; subst h1 h2
  simp only [tt, seval, tkT, tkF, muT, muF, Bool.false_eq_true]
  cases n with
  | true =>
   simp only [tt, seval]
   refine ⟨.ag (csOf ((Expr.mk k1 p1 n1 v1 q1 m1 ks1 ss1)).row), [PB L (⟨u.a, u.b || true⟩)], ⟨rfl, rfl⟩, endOk ?_⟩
   simp only [tt, seval, bae, PB, mLit, mCol, mKids, mUn, mBin, zExpr, zVal, z0, Expr.row_mk, Query.row_mk, List.flatMap_nil, List.flatMap_cons, List.append_nil, List.length_nil, List.length_cons, Val.row, Bool.or_true]
  | false =>
   simp only [tt, seval, Bool.false_eq_true]
   refine ⟨.ag (csOf ((Expr.mk k1 p1 n1 v1 q1 m1 ks1 ss1)).row), [PB L (⟨u.a, u.b⟩)], ⟨rfl, rfl⟩, endOk ?_⟩
   simp only [tt, seval, bae, PB, mLit, mCol, mKids, mUn, mBin, zExpr, zVal, z0, Expr.row_mk, Query.row_mk, List.flatMap_nil, List.flatMap_cons, List.append_nil, List.length_nil, List.length_cons, Val.row]
 ·have e0 : ((0 : Int) < ((opAt L s1 4 : Nat) : Int)) = True := eq_true (by omega)
  rw [if_neg hop] at h
  split at h
  ·cases h
  rename_i y s2 hy
  injection h with h; injection h with h1 h2; subst h1 h2
  simp only [tt, seval, e0]
  refine CallQ.intro (l12Step_d L hL hT s1 true (fun _ => opAt_lt hop)) ?_ ?_ ?_
  ·decide
  ·simp only [tt, seval, PB, muT]
  rintro r os ⟨rfl, rfl⟩ hos
  simp only [tt, seval, PB, muT]
  have ha2 := adv_le (L := L) (opAt_lt hop)
  obtain ⟨k2, p2, n2, v2, q2, m2, ks2, ss2⟩ := y
  have c2 := hf5 _ _ _ hy ha2
  rw [Expr.row_mk] at c2
  apply dDrawn_j1 2
  case h1 =>
   refine dDrawn.intro [19] (.take 0 (.take 2 (.br 1 (.br 3 (.br 4 (.take 5 (.br 6 .done .nobr)) .nobr) .nobr) (.br 3 (.take 1 (.br 4 (.take 5 (.br 6 .done .nobr)) .nobr)) .nobr)))) (by kernel_rfl) ?_
   simp only [tt, seval]
   all_goals repeat' first | refine brC ?_ ?_ | refine brC2 ?_ ?_
   all_goals
    refine CallQ.intro (c2) ?_ ?_ ?_
    ·decide
    ·simp only [tt, seval, PB, Val.row]
     try decide
    rintro r os ⟨rfl, rfl⟩ hos
    simp only [tt, seval, PB, Val.row]
   all_goals exact ⟨rfl, rfl, rfl⟩
  case h2 =>
   intro f' hj0
   try simp only [tt, seval, hj0]
   refine ⟨.ag (csOf (mBin (opAt L s1 4) (Expr.mk k1 p1 n1 v1 q1 m1 ks1 ss1) (Expr.mk k2 p2 n2 v2 q2 m2 ks2 ss2)).row), [PB L (s2)], ⟨rfl, rfl⟩, endOk ?_⟩
   simp only [tt, seval, bae, PB, mLit, mCol, mKids, mUn, mBin, zExpr, zVal, z0, Expr.row_mk, Query.row_mk, List.flatMap_nil, List.flatMap_cons, List.append_nil, List.length_nil, List.length_cons, Val.row, hj0]
end Go.Proofs.YteffjmaadkkmeaaGreatDoor
