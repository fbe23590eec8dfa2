/-
  Tokens and their texts.
  Conditions: none.
-/
import Derived.Test.YtfdcibofiibppaaGreatDoorSTextB
set_option linter.unusedVariables false
set_option linter.unusedSimpArgs false
set_option maxRecDepth 8000
namespace Go.Proofs.YtfdcibofiibppaaGreatDoor
open Go Go.Dv
open Go.Vc (D shrI xorI andI and255)
structure Tok where
  kind : Int
  text : ByteArray
  at_ : Int
def Tok.row (t : Tok) : List D := [int t.kind, str t.text, int t.at_]
theorem Tok.row_len (t : Tok) : t.row.length = 3 := rfl
theorem Tok.tk (t : Tok) (r : List D) : takeD 3 (t.row ++ r) = some t.row := takeD_row rfl
theorem Tok.ne (t : Tok) (r : List D) : t.row ++ r ≠ [] := fun h => by cases h
def signs : List ByteArray := [⟨#[40]⟩, ⟨#[41]⟩, ⟨#[44]⟩, ⟨#[46]⟩, ⟨#[42]⟩, ⟨#[43]⟩, ⟨#[45]⟩, ⟨#[47]⟩, ⟨#[37]⟩, ⟨#[61]⟩, ⟨#[60, 62]⟩, ⟨#[60]⟩, ⟨#[60, 61]⟩, ⟨#[62]⟩, ⟨#[62, 61]⟩, ⟨#[124, 124]⟩]
def signB (s : ByteArray) : Bool := signs.any fun x => decide (s = x)
theorem SignOk_d (s : ByteArray) : Cl Tryz.prog 184 [vs s] [] fun r _ => r = vb (signB s) := by
  refine cl_of_d follows_mixed false Tryz.func184 rfl (by kernel_rfl) ?_
  simp only [Tryz.f184, tt, seval]
  all_goals repeat' first | (refine And.intro (fun h => ?_) (fun h => ?_) <;> try simp only [tt, seval]) | (intro _; try simp only [tt, seval])
  all_goals first | contradiction | exact ⟨_, _, vbE (by simp [signB, signs, *]), end0 rfl⟩
theorem signs_d : Cl Tryz.prog 224 [] [] fun r _ => r = .c (.sl 16 (signs.flatMap srow) none) := by
  refine cl_of_d follows_mixed false Tryz.func224 rfl (by kernel_rfl) ?_
  simp only [tt, seval, Tryz.f224]
  refine ⟨_, [], rfl, endOk ?_⟩
  simp only [tt, seval, signs, srow]
theorem ixOf_sign (s : ByteArray) : decide (0 ≤ ixOf s signs) = signB s := by
  unfold ixOf signB
  by_cases h : signs.findIdx (fun w => decide (w = s)) < signs.length
  · rw [if_pos h]
    have := List.findIdx_getElem (w := h)
    have hm := List.getElem_mem h
    refine (decide_eq_true (by omega)).trans (Eq.symm ?_)
    rw [List.any_eq_true]
    exact ⟨_, hm, by simpa [eq_comm] using this⟩
  · rw [if_neg h]
    refine (decide_eq_false (by omega)).trans (Eq.symm ?_)
    rw [List.any_eq_false]
    intro x hx
    have := List.findIdx_lt_length (xs := signs) (p := fun w => decide (w = s))
    simp only [h, false_iff, not_exists, not_and] at this
    simpa [eq_comm] using this x hx
theorem Contains_d (s : ByteArray) : Cl Tryz.prog 223 [.c (.sl 16 (signs.flatMap srow) none), vs s] [] fun r _ => r = vb (signB s) := by
  refine cl_of_d follows_mixed false Tryz.func223 rfl (by kernel_rfl) ?_
  simp only [Tryz.f223, tt, seval]
  refine call0 (Index_d signs s) ?_ ?_ ?_
  · decide
  · simp only [tt, seval, show signs.length = 16 from rfl]
  rintro r rfl
  simp only [tt, seval, show signs.length = 16 from rfl]
  exact ⟨_, _, vbE (by rw [← ixOf_sign]), end0 rfl⟩
theorem iSignOk_d (s : ByteArray) : Cl Tryz.prog 203 [vs s] [] fun r _ => r = vb (signB s) := by
  refine cl_of_d follows_mixed false Tryz.func203 rfl (by kernel_rfl) ?_
  simp only [Tryz.f203, tt, seval]
  refine call0 (signs_d) ?_ ?_ ?_
  · decide
  · simp only [tt, seval]
  rintro r rfl
  simp only [tt, seval]
  refine call0 (Contains_d s) ?_ ?_ ?_
  · decide
  · simp only [tt, seval]
  rintro r rfl
  simp only [tt, seval]
  exact ⟨_, _, rfl, end0 rfl⟩
def opW : List ByteArray := ⟨#[]⟩ :: [⟨#[79, 82]⟩, ⟨#[65, 78, 68]⟩, ⟨#[61]⟩, ⟨#[60, 62]⟩, ⟨#[60]⟩, ⟨#[60, 61]⟩, ⟨#[62]⟩, ⟨#[62, 61]⟩, ⟨#[124, 124]⟩, ⟨#[43]⟩, ⟨#[45]⟩, ⟨#[42]⟩, ⟨#[47]⟩, ⟨#[37]⟩, ⟨#[78, 79, 84]⟩, ⟨#[45]⟩]
def opT (k : Int) : ByteArray := if 1 ≤ k ∧ k ≤ 16 then opW.getD k.toNat ⟨#[]⟩ else ⟨#[]⟩
def kw (k : Nat) : ByteArray := words.getD k ⟨#[]⟩
end Go.Proofs.YtfdcibofiibppaaGreatDoor
set_option maxRecDepth 8000
namespace Go.Proofs.YtfdcibofiibppaaGreatDoor
open Go Go.Dv
open Go.Vc (D shrI xorI andI and255)
open Go.RowKit (Below)
theorem KeyText_d (k : Nat) (h1 : 1 ≤ k) (h2 : k ≤ 28) : Cl Tryz.prog 123 [vi k] [] fun r _ => r = vs (kw k) := by
  refine cl_of_d follows_mixed false Tryz.func123 rfl (by kernel_rfl) ?_
  simp only [Tryz.f123, tt, seval]
  refine call0 (l1In_d k 1 28) ?_ ?_ ?_
  · decide
  · simp only [tt, seval]
  rintro r rfl
  simp only [tt, seval]
  simp only [tt, seval, decide_eq_true (show (1 : Int) ≤ k ∧ (k : Int) ≤ 28 by omega)]
  refine call0 (l2Words_d) ?_ ?_ ?_
  · decide
  · simp only [tt, seval]
  rintro r rfl
  simp only [tt, seval]
  have hlt : k < words.length := by show _ < 29; omega
  refine ⟨by omega, by omega, _, drop_row srow_len (List.getElem?_eq_getElem hlt), srow_ne _ _, ?_⟩
  simp only [tt, seval, srow_tk, srow]
  exact ⟨_, _, vsE (by rw [kw, List.getD_eq_getElem?_getD, List.getElem?_eq_getElem hlt]; rfl), end0 rfl⟩
theorem opW_row : ([.lit (.string ⟨#[]⟩), .lit (.string ⟨#[79, 82]⟩), .lit (.string ⟨#[65, 78, 68]⟩), .lit (.string ⟨#[61]⟩), .lit (.string ⟨#[60, 62]⟩), .lit (.string ⟨#[60]⟩), .lit (.string ⟨#[60, 61]⟩), .lit (.string ⟨#[62]⟩), .lit (.string ⟨#[62, 61]⟩), .lit (.string ⟨#[124, 124]⟩), .lit (.string ⟨#[43]⟩), .lit (.string ⟨#[45]⟩), .lit (.string ⟨#[42]⟩), .lit (.string ⟨#[47]⟩), .lit (.string ⟨#[37]⟩), .lit (.string ⟨#[78, 79, 84]⟩), .lit (.string ⟨#[45]⟩)] : List D) = opW.flatMap srow := rfl
theorem opW_tail : ([.lit (.string ⟨#[79, 82]⟩), .lit (.string ⟨#[65, 78, 68]⟩), .lit (.string ⟨#[61]⟩), .lit (.string ⟨#[60, 62]⟩), .lit (.string ⟨#[60]⟩), .lit (.string ⟨#[60, 61]⟩), .lit (.string ⟨#[62]⟩), .lit (.string ⟨#[62, 61]⟩), .lit (.string ⟨#[124, 124]⟩), .lit (.string ⟨#[43]⟩), .lit (.string ⟨#[45]⟩), .lit (.string ⟨#[42]⟩), .lit (.string ⟨#[47]⟩), .lit (.string ⟨#[37]⟩), .lit (.string ⟨#[78, 79, 84]⟩), .lit (.string ⟨#[45]⟩)] : List D) = opW.tail.flatMap srow := rfl
theorem OpText_d (k : Int) : Cl Tryz.prog 120 [vi k] [] fun r _ => r = vs (opT k) := by
  refine cl_of_d follows_mixed false Tryz.func120 rfl (by kernel_rfl) ?_
  simp only [Tryz.f120, tt, seval]
  refine call0 (l1In_d k 1 16) ?_ ?_ ?_
  · decide
  · simp only [tt, seval]
  rintro r rfl
  simp only [tt, seval]
  refine And.intro (fun hc => ?_) (fun hc => ?_)
  · exact ⟨_, _, vsE (by rw [opT, if_neg (by simpa only [Bool.not_eq_true', decide_eq_false_iff_not] using hc)]), end0 rfl⟩
  · have hc : 1 ≤ k ∧ k ≤ 16 := by simpa only [Bool.not_eq_false', decide_eq_true_eq] using hc
    have hlt : k.toNat < opW.length := by show _ < 17; omega
    try simp only [tt, seval]
    refine ⟨by omega, by omega, ?_⟩
    rw [opW_row, drop_row srow_len (List.getElem?_eq_getElem hlt)]
    simp only [tt, seval, srow_tk, srow]
    exact ⟨_, _, vsE (by rw [opT, if_pos hc, List.getD_eq_getElem?_getD, List.getElem?_eq_getElem hlt]; rfl), end0 rfl⟩
theorem iOpText_d (k : Int) : Cl Tryz.prog 133 [vi k] [] fun r _ => r = vs (opT k) := by
  refine cl_of_d follows_mixed false Tryz.func133 rfl (by kernel_rfl) ?_
  simp only [Tryz.f133, tt, seval]
  by_cases h1 : k < 1
  · simp only [tt, seval, decide_eq_true h1]
    exact ⟨_, _, vsE (by rw [opT, if_neg (by omega)]), end0 rfl⟩
  · simp only [tt, seval, decide_eq_false h1]
    refine And.intro (fun h2 => ?_) (fun h2 => ?_)
    · exact ⟨_, _, vsE (by rw [opT, if_neg (by omega)]), end0 rfl⟩
    · have hc : 1 ≤ k ∧ k ≤ 16 := by omega
      have hlt : (k - 1).toNat < opW.tail.length := by show _ < 16; omega
      rw [wrap_id (n := k - 1) (by omega) (by omega)]
      refine ⟨by omega, by omega, ?_⟩
      rw [opW_tail, drop_row srow_len (List.getElem?_eq_getElem hlt)]
      simp only [tt, seval, srow_tk, srow]
      have hlt' : k.toNat < opW.length := by show _ < 17; omega
      refine ⟨_, _, vsE ?_, end0 rfl⟩
      rw [opT, if_pos hc, List.getD_eq_getElem?_getD, List.getElem?_eq_getElem hlt']
      simp only [List.getElem_tail, Option.getD_some, show (k - 1).toNat + 1 = k.toNat by omega]
theorem und_err : Tryz.prog.underlying 157 = some (.interface (Tryz.prog.methodsAt 157)) := by kernel_rfl
theorem pu_enil {n : Nat} {d : Option Nat} {K : K0} {f : Rg} {L : Ob} {p : Po} {x : Operand} : dPure Tryz.prog n d (do eqGuard .neq 157 x (.const .nilIface) .nilIface .nilIface; binOp .neq 157 .nilIface .nilIface) K f L p = K (put n f d (.c (.v (.bool false)))) L p :=
  dPure_of (fun w => by rw [Sem.run_bind]; simp [eqGuard, run_neq_nil_nil w 157 und_err]) trivial
theorem pu_eif {n : Nat} {d : Option Nat} {K : K0} {f : Rg} {L : Ob} {p : Po} {x y : Operand} {u : TypeId} {v : Value} : dPure Tryz.prog n d (do eqGuard .neq 157 x y (.iface u v) .nilIface; binOp .neq 157 (.iface u v) .nilIface) K f L p = K (put n f d (.c (.v (.bool true)))) L p :=
  dPure_of (fun w => by rw [Sem.run_bind]; simp [eqGuard, run_neq_held_nil w 157 u v und_err]) trivial
theorem gl_errs {w : World} {own : Nat → Prop} (h : GlW w own) : (∃ v, w.cell? ⟨4, 0, none⟩ = some v ∧ (v = .nilIface ∨ ∃ t p, v = .iface t p)) ∧ (∃ v, w.cell? ⟨5, 0, none⟩ = some v ∧ (v = .nilIface ∨ ∃ t p, v = .iface t p)) := by
  constructor
  · obtain ⟨_, cs, ty, lh, h2, v, h3, h4⟩ := h _ (List.mem_cons_of_mem _ (List.mem_cons_of_mem _ (List.mem_cons_self)))
    exact ⟨v, by simp only [World.cell?, h2]; exact h3, h4⟩
  · obtain ⟨_, cs, ty, lh, h2, v, h3, h4⟩ := h _ (List.mem_cons_of_mem _ (List.mem_cons_of_mem _ (List.mem_cons_of_mem _ (List.mem_cons_self))))
    exact ⟨v, by simp only [World.cell?, h2]; exact h3, h4⟩
def atoiR (s : ByteArray) (r : S) : Prop := ∃ n e, r = .tu [([.v (.int .i64 n)], true), ([.v e], true)] ∧ ((e = .nilIface ∧ Lib.atoiAll s.data.toList = .ok n) ∨ ((∃ t p, e = .iface t p) ∧ ∀ v, Lib.atoiAll s.data.toList ≠ .ok v))
theorem Atoi_d (s : ByteArray) (hs : s.size ≤ 1048576) : Cl Tryz.prog 222 [vs s] [] fun r _ => atoiR s r :=
  Cl.ofNew (by kernel_rfl) [.string s] fun w hg => by
    obtain ⟨⟨ev, h4, h4'⟩, ⟨ev', h5, h5'⟩⟩ := gl_errs hg
    rcases ha : Lib.atoiAll s.data.toList with v | _ | _
    · skip
      refine (Any.strconv_Atoi_ok Tryz.laysC172 s (by omega) v ha w).mono ?_
      rintro e w' ⟨rfl, hw⟩
      refine ⟨_, .tu [([.v (.int .i64 v)], true), ([.v .nilIface], true)], rfl, ⟨v, _, rfl, .inl ⟨rfl, ha⟩⟩, rfl, fun β => ⟨_, rfl, ⟨⟨rfl, trivial⟩, trivial⟩, ⟨⟨rfl, trivial⟩, trivial⟩, trivial⟩, ?_⟩
      rcases hw with rfl | ⟨t, rfl⟩
      · exact Below.refl _ _
      · exact Lib.bytesWorld_below _ _ _
    · refine (Any.strconv_Atoi_syntax Tryz.laysC172 s (by omega) ha ev w h4 h4').mono ?_
      rintro e w' ⟨N, rfl, _, _, hb⟩
      exact ⟨_, .tu [([.v (.int .i64 _)], true), ([.v (.iface _ _)], true)], rfl, ⟨_, _, rfl, .inr ⟨⟨_, _, rfl⟩, fun v h => by rw [ha] at h; cases h⟩⟩, rfl, fun β => ⟨_, rfl, ⟨⟨rfl, trivial⟩, trivial⟩, ⟨⟨rfl, trivial⟩, trivial⟩, trivial⟩, hb⟩
    · refine (Any.strconv_Atoi_range Tryz.laysC172 s (by omega) ha ev' w h5 h5').mono ?_
      rintro e w' ⟨N, rfl, _, _, hb⟩
      exact ⟨_, .tu [([.v (.int .i64 _)], true), ([.v (.iface _ _)], true)], rfl, ⟨_, _, rfl, .inr ⟨⟨_, _, rfl⟩, fun v h => by rw [ha] at h; cases h⟩⟩, rfl, fun β => ⟨_, rfl, ⟨⟨rfl, trivial⟩, trivial⟩, ⟨⟨rfl, trivial⟩, trivial⟩, trivial⟩, hb⟩
def numOk (s : ByteArray) : Bool := (numN s.data.toList).isSome
def numV (s : ByteArray) : Int := ((numN s.data.toList).getD 0 : Nat)
def numS (s : ByteArray) : S := .tu [([.v (.int .i64 (numV s))], true), ([.v (.bool (numOk s))], true)]
theorem iNumber_d (s : ByteArray) (hs : s.size ≤ 1048576) : Cl Tryz.prog 202 [vs s] [] fun r _ => r = numS s := by
  refine cl_of_d follows_mixed false Tryz.func202 rfl (by kernel_rfl) ?_
  simp only [Tryz.f202, tt, seval]
  refine call0 (Atoi_d s hs) ?_ ?_ ?_
  · decide
  · simp only [tt, seval]
  rintro r ⟨n, e, rfl, hh⟩
  simp only [tt, seval]
  rcases hh with ⟨rfl, ha⟩ | ⟨⟨tt', pp, rfl⟩, hne⟩
  · rw [pu_enil]
    simp only [tt, seval]
    have hb := Lib.atoiAll_bounds ha
    by_cases hn : n < 0
    · simp only [tt, seval, decide_eq_true hn]
      have hno : numN s.data.toList = none := by
        cases hc : numN s.data.toList with
        | none => rfl
        | some m => have := atoi_numN hc; rw [ha] at this; injection this; omega
      exact ⟨_, _, by rw [numS, numV, numOk, hno]; rfl, end0 rfl⟩
    · simp only [tt, seval, decide_eq_false hn]
      refine call0 (iDigits_d n (by omega) (by omega)) ?_ ?_ ?_
      · decide
      · simp only [tt, seval]
      rintro r rfl
      simp only [tt, seval]
      refine And.intro (fun he => ?_) (fun he => ?_)
      · have he' : ¬ itoaB n = s := by simpa only [Bool.not_eq_true', decide_eq_false_iff_not] using he
        have hno : numN s.data.toList = none := by
          cases hc : numN s.data.toList with
          | none => rfl
          | some m =>
            have h1 := atoi_numN hc
            obtain ⟨_, h2⟩ := numN_some.1 hc
            rw [ha] at h1
            injection h1 with h1
            refine absurd (ba_ext ?_) he'
            rw [itoaB, h1, itoa_nat, h2]
        exact ⟨_, _, by rw [numS, numV, numOk, hno]; rfl, end0 rfl⟩
      · have he' : itoaB n = s := by simpa only [Bool.not_eq_false', decide_eq_true_eq] using he
        have hc := numN_atoi ha (by omega) (by rw [← he']; rfl)
        exact ⟨_, _, by rw [numS, numV, numOk, hc]; simp only [Option.getD_some, Option.isSome_some, Int.toNat_of_nonneg (show 0 ≤ n by omega)], end0 rfl⟩
  · rw [pu_eif]
    simp only [tt, seval]
    have hno : numN s.data.toList = none := by
      cases hc : numN s.data.toList with
      | none => rfl
      | some m => exact absurd (atoi_numN hc) (hne _)
    exact ⟨_, _, by rw [numS, numV, numOk, hno]; rfl, end0 rfl⟩
theorem Number_d (s : ByteArray) (hs : s.size ≤ 1048576) : Cl Tryz.prog 183 [vs s] [] fun r _ => r = numS s := by
  obtain ⟨l, hl⟩ : ∃ l, l = s.data.toList := ⟨_, rfl⟩
  have hll : l.length = s.size := by rw [hl]; exact size_toList s
  refine cl_of_d follows_mixed false Tryz.func183 rfl (by kernel_rfl) ?_
  simp only [Tryz.f183, tt, seval]
  refine fun _ => ?_
  have none_of (h : numN l = none) : numS s = .tu [([.v (.int .i64 0)], true), ([.v (.bool false)], true)] := by rw [numS, numV, numOk, ← hl, h]; rfl
  have fin0 (h : numN l = none) {L : Ob} {p : Po} : ∃ r objs, r = numS s ∧ EndOk L p (.tu [([.v (.int .i64 0)], true), ([.v (.bool false)], true)]) r 0 objs := ⟨_, [], rfl, by rw [none_of h]; exact end0 rfl⟩
  by_cases hs1 : (s.size : Int) < 1
  · simp only [tt, seval, decide_eq_true hs1]
    exact fin0 (by
      cases hc : numN l with
      | none => rfl
      | some m =>
        obtain ⟨_, h2⟩ := numN_some.1 hc
        obtain ⟨b, r, h3, _⟩ := decDigits_head m
        have : l.length = 0 := by omega
        rw [← h2, h3] at this; simp at this)
  · simp only [tt, seval, decide_eq_false hs1]
    refine fun _ => And.intro (fun hs2 => ?_) (fun hs2 => ?_)
    · exact fin0 (by
        cases hc : numN l with
        | none => rfl
        | some m =>
          obtain ⟨h1, h2⟩ := numN_some.1 hc
          have := decDigits_len m 18 (by omega)
          rw [h2] at this; omega)
    · skip
      refine dLoop.intro (fun f' L p => ∃ i n : Nat, f' 5 = vi i ∧ f' 4 = vi n ∧ i ≤ l.length ∧ Lib.decFrom 0 (l.take i) = some n ∧ n ≤ 9223372036854775807 ∧ L = [] ∧ p = none) (fun f' _ _ => (s.size - ixS (f' 5)).toNat) [] none ⟨SubO.nil _, PoSub.none _, ?_⟩ ?_
      · simp only [tt, seval]
        exact ⟨0, 0, rfl, rfl, by omega, rfl, by omega⟩
      · rintro g L p ⟨i, n, h5, h4, hi, hd, hn, rfl, rfl⟩
        simp only [tt, seval] at h5 h4
        simp only [tt, seval, h5, h4, Int.ofNat_lt]
        refine fun _ => And.intro (fun hlt => ?_) (fun hge => ?_)
        · have hil : i < l.length := by omega
          have hget : l[i]? = some l[i] := List.getElem?_eq_getElem hil
          rw [pu_at hl hil]
          simp only [tt, seval, h5, h4]
          have dn (h : ¬ (48 ≤ l[i].toNat ∧ l[i].toNat ≤ 57)) : numN l = none := by
            unfold numN
            rw [decFrom_none hget (by unfold Lib.digitVal; rw [if_neg h]) 0]
          by_cases hb : (l[i].toNat : Int) < 48
          · simp only [tt, seval, decide_eq_true hb]
            exact fin0 (dn (by omega))
          · simp only [tt, seval, decide_eq_false hb, h5, h4]
            rw [pu_at hl hil]
            simp only [tt, seval, h5, h4]
            refine And.intro (fun hb2 => ?_) (fun hb2 => ?_)
            · exact fin0 (dn (by omega))
            · try simp only [tt, seval, h5, h4]
              rw [pu_at hl hil]
              simp only [tt, seval, h5, h4]
              have hbb : 48 ≤ l[i].toNat ∧ l[i].toNat ≤ 57 := by omega
              obtain ⟨d, hd48⟩ : ∃ d : Nat, l[i].toNat = 48 + d := ⟨l[i].toNat - 48, by omega⟩
              have hd9 : d ≤ 9 := by omega
              have hdv : Lib.digitVal l[i] = some d := by unfold Lib.digitVal; rw [if_pos hbb, hd48]; congr 1; omega
              have hsn : Lib.decFrom 0 (l.take (i + 1)) = some (n * 10 + d) := by rw [List.take_succ_eq_append_getElem hil, decFrom_snoc, hd, hdv]
              rw [hd48, wrap_id (n := ((48 + d : Nat) : Int)) (by omega) (by omega), wrap_id (n := ((48 + d : Nat) : Int) - 48) (by omega) (by omega), wrap_id (n := 9223372036854775807 - (((48 + d : Nat) : Int) - 48)) (by omega) (by omega)]
              have ht : (9223372036854775807 - (((48 + d : Nat) : Int) - 48)).tdiv 10 = (((9223372036854775807 - d) / 10 : Nat) : Int) := by
                rw [Int.tdiv_eq_ediv_of_nonneg (by omega)]; omega
              rw [ht, wrap_id (n := (((9223372036854775807 - d) / 10 : Nat) : Int)) (by omega) (by omega)]
              refine And.intro (fun ho => ?_) (fun ho => ?_)
              · exact fin0 (by
                  cases hc : numN l with
                  | none => rfl
                  | some m =>
                    obtain ⟨h1, h2⟩ := numN_some.1 hc
                    have hm := decFrom_digits m
                    rw [h2] at hm
                    have hsp : ∀ (a b : List UInt8) (acc : Nat), Lib.decFrom acc (a ++ b) = (Lib.decFrom acc a).bind fun x => Lib.decFrom x b := by
                      intro a
                      induction a with
                      | nil => intro b acc; rfl
                      | cons c r ih =>
                        intro b acc
                        simp only [List.cons_append, Lib.decFrom]
                        cases Lib.digitVal c with
                        | none => rfl
                        | some d => exact ih b _
                    have := hsp (l.take (i + 1)) (l.drop (i + 1)) 0
                    rw [List.take_append_drop, hm, hsn] at this
                    have := decFrom_ge _ _ _ this.symm
                    omega)
              · rw [wrap_id (n := 10 * (n : Int)) (by omega) (by omega), wrap_id (n := 10 * (n : Int) + (((48 + d : Nat) : Int) - 48)) (by omega) (by omega), wrap_id (n := (i : Int) + 1) (by omega) (by omega)]
                exact ⟨[], none, SubO.nil _, PoSub.none _, ⟨i + 1, n * 10 + d, by simp, viE (by omega), by omega, hsn, by omega, rfl, rfl⟩, by simp only [ixS]; omega⟩
        · have : i = l.length := by omega
          subst this
          rw [List.take_length] at hd
          refine call0 (Digits_d n (by omega) (by omega)) ?_ ?_ ?_
          · decide
          · simp only [tt, seval, h5, h4]
          rintro r rfl
          simp only [tt, seval, h5, h4]
          refine And.intro (fun he => ?_) (fun he => ?_)
          · have he' : ¬ itoaB n = s := by simpa only [Bool.not_eq_true', decide_eq_false_iff_not] using he
            exact fin0 (by
              unfold numN
              rw [hd]
              refine if_neg fun hc => he' (ba_ext ?_)
              rw [itoaB, itoa_nat, hc.2, hl])
          · have he' : itoaB n = s := by simpa only [Bool.not_eq_false', decide_eq_true_eq] using he
            have hc : numN l = some n := numN_some.2 ⟨by omega, by rw [← itoa_nat, hl, ← he']; rfl⟩
            exact ⟨_, _, by rw [numS, numV, numOk, ← hl, hc]; rfl, end0 rfl⟩
end Go.Proofs.YtfdcibofiibppaaGreatDoor
set_option maxRecDepth 8000
namespace Go.Proofs.YtfdcibofiibppaaGreatDoor
open Go Go.Dv
open Go.Vc (D shrI xorI andI and255)
def okTok (t : Tok) : Bool := if t.kind = 1 then (decide (¬ key t.text = 0) && decide (foldB t.text = t.text)) else if t.kind = 2 then decide (1 ≤ t.text.size ∧ t.text.size ≤ 20) else if t.kind = 3 then numOk t.text else if t.kind = 4 then decide (t.text.size ≤ 40) else if t.kind = 5 then signB t.text else false
theorem TokenOk_d (t : Tok) (hs : t.text.size ≤ 1048576) : Cl Tryz.prog 114 [.ag (csOf t.row)] [] fun r _ => r = vb (okTok t) := by
  rw [Tok.row]
  refine cl_of_d follows_mixed false Tryz.func114 rfl (by kernel_rfl) ?_
  simp only [Tryz.f114, tt, seval]
  refine And.intro (fun h1 => ?_) (fun h1 => ?_)
  · skip
    refine dDrawn.intro [] (pln [0, 2, 5, 6, 8, 10, 12, 16, 18, 15, 20, 22, 24]) (by kernel_rfl) ?_
    simp only [tt, seval]
    refine call0 (KeyOf_d t.text hs) ?_ ?_ ?_
    · decide
    · simp only [tt, seval, Tok.row]
    rintro r rfl
    simp only [tt, seval, Tok.row]
    have hk := key_ge t.text
    have hgt : decide ((0 : Int) < key t.text) = decide (¬ key t.text = 0) := by rw [decide_eq_decide]; omega
    by_cases hz : key t.text = 0
    · simp only [tt, seval, hgt, decide_eq_true hz, decide_eq_false (not_not_intro hz)]
      exact ⟨_, _, vbE (by rw [okTok, if_pos h1, decide_eq_false (not_not_intro hz)]; rfl), end0 rfl⟩
    · simp only [tt, seval, hgt, decide_eq_false hz, decide_eq_true hz]
      refine call0 (Fold_d t.text hs) ?_ ?_ ?_
      · decide
      · simp only [tt, seval, Tok.row]
      rintro r rfl
      simp only [tt, seval, Tok.row]
      exact ⟨_, _, vbE (by rw [okTok, if_pos h1, decide_eq_true hz]; rfl), end0 rfl⟩
  · try simp only [tt, seval]
    refine And.intro (fun h2 => ?_) (fun h2 => ?_)
    · skip
      refine call0 (NameOk_d t.text) ?_ ?_ ?_
      · decide
      · simp only [tt, seval, Tok.row]
      rintro r rfl
      simp only [tt, seval, Tok.row]
      exact ⟨_, _, vbE (by rw [okTok, if_neg h1, if_pos h2]), end0 rfl⟩
    · try simp only [tt, seval]
      refine And.intro (fun h3 => ?_) (fun h3 => ?_)
      · skip
        refine call0 (Number_d t.text hs) ?_ ?_ ?_
        · decide
        · simp only [tt, seval, Tok.row, numS]
        rintro r rfl
        simp only [tt, seval, Tok.row, numS]
        exact ⟨_, _, vbE (by rw [okTok, if_neg h1, if_neg h2, if_pos h3]), end0 rfl⟩
      · try simp only [tt, seval]
        refine And.intro (fun h4 => ?_) (fun h4 => ?_)
        · try simp only [tt, seval]
          refine fun _ => ?_
          exact ⟨_, _, vbE (by rw [okTok, if_neg h1, if_neg h2, if_neg h3, if_pos h4]; simp only [decide_eq_decide]; omega), end0 rfl⟩
        · try simp only [tt, seval]
          refine And.intro (fun h5 => ?_) (fun h5 => ?_)
          · skip
            refine call0 (SignOk_d t.text) ?_ ?_ ?_
            · decide
            · simp only [tt, seval, Tok.row]
            rintro r rfl
            simp only [tt, seval, Tok.row]
            exact ⟨_, _, vbE (by rw [okTok, if_neg h1, if_neg h2, if_neg h3, if_neg h4, if_pos h5]), end0 rfl⟩
          · exact ⟨_, _, vbE (by rw [okTok, if_neg h1, if_neg h2, if_neg h3, if_neg h4, if_neg h5]), end0 rfl⟩
theorem iTokenOk_d (t : Tok) (hs : t.text.size ≤ 1048576) : Cl Tryz.prog 137 [.ag (csOf t.row)] [] fun r _ => r = vb (okTok t) := by
  rw [Tok.row]
  refine cl_of_d follows_mixed false Tryz.func137 rfl (by kernel_rfl) ?_
  simp only [Tryz.f137, tt, seval]
  refine And.intro (fun h1 => ?_) (fun h1 => ?_)
  · skip
    refine dDrawn.intro [] (pln [0, 2, 5, 6, 8, 10, 12, 16, 18, 15, 20, 22, 24]) (by kernel_rfl) ?_
    simp only [tt, seval]
    refine call0 (iKeyOf_d t.text hs) ?_ ?_ ?_
    · decide
    · simp only [tt, seval, Tok.row]
    rintro r rfl
    simp only [tt, seval, Tok.row]
    have hk := key_ge t.text
    have hgt : True := trivial
    by_cases hz : key t.text = 0
    · simp only [tt, seval, hgt, decide_eq_true hz, decide_eq_false (not_not_intro hz)]
      exact ⟨_, _, vbE (by rw [okTok, if_pos h1, decide_eq_false (not_not_intro hz)]; rfl), end0 rfl⟩
    · simp only [tt, seval, hgt, decide_eq_false hz, decide_eq_true hz]
      refine call0 (iFold_d t.text hs) ?_ ?_ ?_
      · decide
      · simp only [tt, seval, Tok.row]
      rintro r rfl
      simp only [tt, seval, Tok.row]
      exact ⟨_, _, vbE (by rw [okTok, if_pos h1, decide_eq_true hz]; rfl), end0 rfl⟩
  · try simp only [tt, seval]
    refine And.intro (fun h2 => ?_) (fun h2 => ?_)
    · skip
      refine call0 (iNameOk_d t.text) ?_ ?_ ?_
      · decide
      · simp only [tt, seval, Tok.row]
      rintro r rfl
      simp only [tt, seval, Tok.row]
      exact ⟨_, _, vbE (by rw [okTok, if_neg h1, if_pos h2]), end0 rfl⟩
    · try simp only [tt, seval]
      refine And.intro (fun h3 => ?_) (fun h3 => ?_)
      · skip
        refine call0 (iNumber_d t.text hs) ?_ ?_ ?_
        · decide
        · simp only [tt, seval, Tok.row, numS]
        rintro r rfl
        simp only [tt, seval, Tok.row, numS]
        exact ⟨_, _, vbE (by rw [okTok, if_neg h1, if_neg h2, if_pos h3]), end0 rfl⟩
      · try simp only [tt, seval]
        refine And.intro (fun h4 => ?_) (fun h4 => ?_)
        · try simp only [tt, seval]
          refine fun _ => ?_
          exact ⟨_, _, vbE (by rw [okTok, if_neg h1, if_neg h2, if_neg h3, if_pos h4]; simp only [decide_eq_decide]; omega), end0 rfl⟩
        · try simp only [tt, seval]
          refine And.intro (fun h5 => ?_) (fun h5 => ?_)
          · skip
            refine call0 (iSignOk_d t.text) ?_ ?_ ?_
            · decide
            · simp only [tt, seval, Tok.row]
            rintro r rfl
            simp only [tt, seval, Tok.row]
            exact ⟨_, _, vbE (by rw [okTok, if_neg h1, if_neg h2, if_neg h3, if_neg h4, if_pos h5]), end0 rfl⟩
          · exact ⟨_, _, vbE (by rw [okTok, if_neg h1, if_neg h2, if_neg h3, if_neg h4, if_neg h5]), end0 rfl⟩
theorem sign_pos {s : ByteArray} (h : signB s = true) : 0 < s.size := by
  simp only [signB, signs, List.any_cons, List.any_nil, Bool.or_false, Bool.or_eq_true, decide_eq_true_eq] at h
  rcases h with h | h | h | h | h | h | h | h | h | h | h | h | h | h | h | h <;> (rw [h]; decide)
def tokT (t : Tok) : ByteArray := if okTok t = false then ⟨#[]⟩ else if t.kind = 2 then nameT t.text else if t.kind = 4 then quoteB 39 t.text else t.text
def wordB (t : Tok) : Bool := decide (t.kind = 1) || (decide (t.kind = 3) || (decide (t.kind = 2) && plainN t.text))
def quotB (t : Tok) : Bool := decide (t.kind = 2) && !plainN t.text
def gapS (a b : Tok) : Bool :=
  if ¬ a.kind = 5 then false else if ¬ b.kind = 5 then false else
  if a.text = ⟨#[45]⟩ then decide (b.text = ⟨#[45]⟩) else if a.text = ⟨#[47]⟩ then decide (b.text = ⟨#[42]⟩) else
  if a.text = ⟨#[60]⟩ then (decide (b.text.data.toList.headD 0 = 61) || decide (b.text.data.toList.headD 0 = 62)) else if a.text = ⟨#[62]⟩ then decide (b.text.data.toList.headD 0 = 61) else false
def gapC (a b : Tok) : Bool := if ((wordB a && wordB b) || (quotB a && quotB b) || (decide (a.kind = 4) && decide (b.kind = 4))) = true then true else gapS a b
def gapB (a b : Tok) : Bool := if (!(okTok a && okTok b)) = true then false else gapC a b
theorem TokenText_d (t : Tok) (hs : t.text.size ≤ 1048576) : Cl Tryz.prog 116 [.ag (csOf t.row)] [] fun r _ => r = vs (tokT t) := by
  rw [Tok.row]
  refine cl_of_d follows_mixed false Tryz.func116 rfl (by kernel_rfl) ?_
  simp only [Tryz.f116, tt, seval]
  refine call0 (TokenOk_d t hs) ?_ ?_ ?_
  · decide
  · simp only [tt, seval, Tok.row]
  rintro r rfl
  simp only [tt, seval, Tok.row]
  refine And.intro (fun h => ?_) (fun h => ?_)
  · have h : okTok t = false := by simpa only [Bool.not_eq_true'] using h
    exact ⟨_, _, vsE (by rw [tokT, if_pos h]), end0 rfl⟩
  · have h : ¬ okTok t = false := by simpa only [Bool.not_eq_false', Bool.not_eq_false] using h
    refine And.intro (fun h2 => ?_) (fun h2 => ?_)
    · skip
      refine call0 (NameText_d t.text hs) ?_ ?_ ?_
      · decide
      · simp only [tt, seval, Tok.row]
      rintro r rfl
      simp only [tt, seval, Tok.row]
      exact ⟨_, _, vsE (by rw [tokT, if_neg h, if_pos h2]), end0 rfl⟩
    · try simp only [tt, seval]
      refine And.intro (fun h4 => ?_) (fun h4 => ?_)
      · skip
        refine call0 (QuoteText_d t.text hs) ?_ ?_ ?_
        · decide
        · simp only [tt, seval, Tok.row]
        rintro r rfl
        simp only [tt, seval, Tok.row]
        exact ⟨_, _, vsE (by rw [tokT, if_neg h, if_neg h2, if_pos h4]), end0 rfl⟩
      · exact ⟨_, _, vsE (by rw [tokT, if_neg h, if_neg h2, if_neg h4]), end0 rfl⟩
theorem iTokenText_d (t : Tok) (hs : t.text.size ≤ 1048576) : Cl Tryz.prog 139 [.ag (csOf t.row)] [] fun r _ => r = vs (tokT t) := by
  rw [Tok.row]
  refine cl_of_d follows_mixed false Tryz.func139 rfl (by kernel_rfl) ?_
  simp only [Tryz.f139, tt, seval]
  refine call0 (iTokenOk_d t hs) ?_ ?_ ?_
  · decide
  · simp only [tt, seval, Tok.row]
  rintro r rfl
  simp only [tt, seval, Tok.row]
  refine And.intro (fun h => ?_) (fun h => ?_)
  · have h : okTok t = false := by simpa only [Bool.not_eq_true'] using h
    exact ⟨_, _, vsE (by rw [tokT, if_pos h]), end0 rfl⟩
  · have h : ¬ okTok t = false := by simpa only [Bool.not_eq_false', Bool.not_eq_false] using h
    refine And.intro (fun h2 => ?_) (fun h2 => ?_)
    · skip
      refine call0 (iNameText_d t.text hs) ?_ ?_ ?_
      · decide
      · simp only [tt, seval, Tok.row]
      rintro r rfl
      simp only [tt, seval, Tok.row]
      exact ⟨_, _, vsE (by rw [tokT, if_neg h, if_pos h2]), end0 rfl⟩
    · try simp only [tt, seval]
      refine And.intro (fun h4 => ?_) (fun h4 => ?_)
      · skip
        refine call0 (iQuoteText_d t.text hs) ?_ ?_ ?_
        · decide
        · simp only [tt, seval, Tok.row]
        rintro r rfl
        simp only [tt, seval, Tok.row]
        exact ⟨_, _, vsE (by rw [tokT, if_neg h, if_neg h2, if_pos h4]), end0 rfl⟩
      · exact ⟨_, _, vsE (by rw [tokT, if_neg h, if_neg h2, if_neg h4]), end0 rfl⟩
theorem l4Word_d (t : Tok) (hs : t.text.size ≤ 1048576) : Cl Tryz.prog 185 [.ag (csOf t.row)] [] fun r _ => r = vb (wordB t) := by
  rw [Tok.row]
  refine cl_of_d follows_mixed false Tryz.func185 rfl (by kernel_rfl) ?_
  simp only [Tryz.f185, tt, seval]
  by_cases h1 : t.kind = 1
  · simp only [tt, seval, h1]
    exact ⟨_, _, vbE (by rw [wordB, decide_eq_true h1]; rfl), end0 rfl⟩
  · simp only [tt, seval, decide_eq_false h1]
    by_cases h3 : t.kind = 3
    · simp only [tt, seval, h3]
      exact ⟨_, _, vbE (by rw [wordB, decide_eq_true h3]; simp), end0 rfl⟩
    · simp only [tt, seval, decide_eq_false h3]
      by_cases h2 : t.kind = 2
      · simp only [tt, seval, decide_eq_true h2]
        refine call0 (PlainName_d t.text hs) ?_ ?_ ?_
        · decide
        · simp only [tt, seval, Tok.row]
        rintro r rfl
        simp only [tt, seval, Tok.row]
        exact ⟨_, _, vbE (by rw [wordB, decide_eq_false h1, decide_eq_false h3, decide_eq_true h2]; rfl), end0 rfl⟩
      · simp only [tt, seval, decide_eq_false h2]
        exact ⟨_, _, vbE (by rw [wordB, decide_eq_false h1, decide_eq_false h3, decide_eq_false h2]; rfl), end0 rfl⟩
theorem isWord_d (t : Tok) (hs : t.text.size ≤ 1048576) : Cl Tryz.prog 142 [.ag (csOf t.row)] [] fun r _ => r = vb (wordB t) := by
  rw [Tok.row]
  refine cl_of_d follows_mixed false Tryz.func142 rfl (by kernel_rfl) ?_
  simp only [Tryz.f142, tt, seval]
  by_cases h1 : t.kind = 1
  · simp only [tt, seval, h1]
    exact ⟨_, _, vbE (by rw [wordB, decide_eq_true h1]; rfl), end0 rfl⟩
  · simp only [tt, seval, decide_eq_false h1]
    by_cases h3 : t.kind = 3
    · simp only [tt, seval, h3]
      exact ⟨_, _, vbE (by rw [wordB, decide_eq_true h3]; simp), end0 rfl⟩
    · simp only [tt, seval, decide_eq_false h3]
      by_cases h2 : t.kind = 2
      · simp only [tt, seval, decide_eq_true h2]
        refine call0 (iPlainName_d t.text hs) ?_ ?_ ?_
        · decide
        · simp only [tt, seval, Tok.row]
        rintro r rfl
        simp only [tt, seval, Tok.row]
        exact ⟨_, _, vbE (by rw [wordB, decide_eq_false h1, decide_eq_false h3, decide_eq_true h2]; rfl), end0 rfl⟩
      · simp only [tt, seval, decide_eq_false h2]
        exact ⟨_, _, vbE (by rw [wordB, decide_eq_false h1, decide_eq_false h3, decide_eq_false h2]; rfl), end0 rfl⟩
theorem l4Quoted_d (t : Tok) (hs : t.text.size ≤ 1048576) : Cl Tryz.prog 186 [.ag (csOf t.row)] [] fun r _ => r = vb (quotB t) := by
  rw [Tok.row]
  refine cl_of_d follows_mixed false Tryz.func186 rfl (by kernel_rfl) ?_
  simp only [Tryz.f186, tt, seval]
  by_cases h2 : t.kind = 2
  · simp only [tt, seval, decide_eq_true h2]
    refine call0 (PlainName_d t.text hs) ?_ ?_ ?_
    · decide
    · simp only [tt, seval, Tok.row]
    rintro r rfl
    simp only [tt, seval, Tok.row]
    exact ⟨_, _, vbE (by rw [quotB, decide_eq_true h2]; rfl), end0 rfl⟩
  · simp only [tt, seval, decide_eq_false h2]
    exact ⟨_, _, vbE (by rw [quotB, decide_eq_false h2]; rfl), end0 rfl⟩
theorem isQuotedName_d (t : Tok) (hs : t.text.size ≤ 1048576) : Cl Tryz.prog 143 [.ag (csOf t.row)] [] fun r _ => r = vb (quotB t) := by
  rw [Tok.row]
  refine cl_of_d follows_mixed false Tryz.func143 rfl (by kernel_rfl) ?_
  simp only [Tryz.f143, tt, seval]
  by_cases h2 : t.kind = 2
  · simp only [tt, seval, decide_eq_true h2]
    refine call0 (iPlainName_d t.text hs) ?_ ?_ ?_
    · decide
    · simp only [tt, seval, Tok.row]
    rintro r rfl
    simp only [tt, seval, Tok.row]
    exact ⟨_, _, vbE (by rw [quotB, decide_eq_true h2]; rfl), end0 rfl⟩
  · simp only [tt, seval, decide_eq_false h2]
    exact ⟨_, _, vbE (by rw [quotB, decide_eq_false h2]; rfl), end0 rfl⟩
set_option maxHeartbeats 2000000 in
theorem NeedsGap_d (a b : Tok) (ha : a.text.size ≤ 1048576) (hb : b.text.size ≤ 1048576) : Cl Tryz.prog 115 [.ag (csOf a.row), .ag (csOf b.row)] [] fun r _ => r = vb (gapB a b) := by
  obtain ⟨l, hl⟩ : ∃ l, l = b.text.data.toList := ⟨_, rfl⟩
  have hll : l.length = b.text.size := by rw [hl]; exact size_toList b.text
  rw [Tok.row, Tok.row]
  refine cl_of_d follows_mixed false Tryz.func115 rfl (by kernel_rfl) ?_
  simp only [Tryz.f115, tt, seval]
  refine call0 (TokenOk_d a ha) ?_ ?_ ?_
  · decide
  · simp only [tt, seval, Tok.row]
  rintro r rfl
  simp only [tt, seval, Tok.row]
  cases hoa : okTok a with
  | false =>
    simp only [tt, seval, hoa]
    exact ⟨_, _, vbE (by simp only [gapB, hoa, Bool.false_and, Bool.not_false, reduceIte]), end0 rfl⟩
  | true =>
  simp only [tt, seval, hoa]
  refine call0 (TokenOk_d b hb) ?_ ?_ ?_
  · decide
  · simp only [tt, seval, Tok.row]
  rintro r rfl
  simp only [tt, seval, Tok.row]
  cases hob : okTok b with
  | false =>
    simp only [tt, seval, hob]
    exact ⟨_, _, vbE (by simp only [gapB, hoa, hob, Bool.and_false, Bool.not_false, reduceIte]), end0 rfl⟩
  | true =>
  simp only [tt, seval, hob]
  have g0 : gapB a b = gapC a b := by simp only [gapB, hoa, hob, Bool.and_self, Bool.not_true, Bool.false_eq_true, reduceIte]
  refine call0 (l4Word_d a ha) ?_ ?_ ?_
  · decide
  · simp only [tt, seval, Tok.row]
  rintro r rfl
  simp only [tt, seval, Tok.row]
  have hw : (wordB a && wordB b) = true → gapC a b = true := fun h => by simp only [gapC, h, Bool.true_or, reduceIte]
  have hq : (quotB a && quotB b) = true → gapC a b = true := fun h => by simp only [gapC, h, Bool.true_or, Bool.or_true, reduceIte]
  have ht : (decide (a.kind = 4) && decide (b.kind = 4)) = true → gapC a b = true := fun h => by simp only [gapC, h, Bool.or_true, reduceIte]
  have he : (wordB a && wordB b) = false → (quotB a && quotB b) = false → (decide (a.kind = 4) && decide (b.kind = 4)) = false → gapC a b = gapS a b := fun h1 h2 h3 => by simp only [gapC, h1, h2, h3, Bool.or_self, Bool.false_eq_true, reduceIte]
  have hpos (h5 : b.kind = 5) : 0 < l.length := by
    have : signB b.text = true := by rw [okTok, if_neg (by omega), if_neg (by omega), if_neg (by omega), if_neg (by omega), if_pos h5] at hob; exact hob
    have := sign_pos this
    omega
  have heq (hl0 : 0 < l.length) (n : UInt8) : decide (b.text.data.toList.headD 0 = n) = decide ((l[0].toNat : Int) = n.toNat) := by
    rw [← hl, decide_eq_decide]
    have : l.headD 0 = l[0] := by cases l with | nil => exact absurd hl0 (Nat.lt_irrefl _) | cons x r => rfl
    rw [this, ← UInt8.toNat_inj]; omega
  by_cases hww : (wordB a && wordB b) = true
  · have hwa : wordB a = true := by rw [Bool.and_eq_true] at hww; exact hww.1
    have hwb : wordB b = true := by rw [Bool.and_eq_true] at hww; exact hww.2
    simp only [tt, seval, hwa]
    refine call0 (l4Word_d b hb) ?_ ?_ ?_
    · decide
    · simp only [tt, seval, Tok.row]
    rintro r rfl
    simp only [tt, seval, Tok.row]
    simp only [tt, seval, hwb]
    exact ⟨_, _, vbE (by rw [g0, hw hww]), end0 rfl⟩
  have hww' : (wordB a && wordB b) = false := by simpa only [Bool.not_eq_true] using hww
  have hcase : wordB a = false ∨ (wordB a = true ∧ wordB b = false) := by cases h : wordB a <;> cases h' : wordB b <;> simp_all
  rcases hcase with hwa | ⟨hwa, hwb⟩
  case' inl => simp only [tt, seval, hwa]
  case' inr =>
    simp only [tt, seval, hwa]
    refine call0 (l4Word_d b hb) ?_ ?_ ?_
    · decide
    · simp only [tt, seval, Tok.row]
    rintro r rfl
    simp only [tt, seval, Tok.row]
    simp only [tt, seval, hwb]
  all_goals
    by_cases HTT : (decide (a.kind = 4) && decide (b.kind = 4)) = true
    · have hta : a.kind = 4 := by rw [Bool.and_eq_true] at HTT; exact of_decide_eq_true HTT.1
      have htb : b.kind = 4 := by rw [Bool.and_eq_true] at HTT; exact of_decide_eq_true HTT.2
      simp only [tt, seval, decide_eq_true hta]
      simp only [tt, seval, decide_eq_true htb, htb]
      exact ⟨_, _, vbE (by rw [g0, ht HTT]), end0 rfl⟩
    have HT : (decide (a.kind = 4) && decide (b.kind = 4)) = false := by simpa only [Bool.not_eq_true] using HTT
    have hcase : ¬ a.kind = 4 ∨ (a.kind = 4 ∧ ¬ b.kind = 4) := by cases h : decide (a.kind = 4) <;> cases h' : decide (b.kind = 4) <;> simp_all
    rcases hcase with hta | ⟨hta, htb⟩
    case' inl => simp only [tt, seval, decide_eq_false hta]
    case' inr =>
      simp only [tt, seval, decide_eq_true hta]
      simp only [tt, seval, decide_eq_false htb, htb]
    all_goals
      by_cases HQQ : (quotB a && quotB b) = true
      · have hqa : quotB a = true := by rw [Bool.and_eq_true] at HQQ; exact HQQ.1
        have hqb : quotB b = true := by rw [Bool.and_eq_true] at HQQ; exact HQQ.2
        refine call0 (l4Quoted_d a ha) ?_ ?_ ?_
        · decide
        · simp only [tt, seval, Tok.row]
        rintro r rfl
        simp only [tt, seval, Tok.row]
        simp only [tt, seval, hqa]
        refine call0 (l4Quoted_d b hb) ?_ ?_ ?_
        · decide
        · simp only [tt, seval, Tok.row]
        rintro r rfl
        simp only [tt, seval, Tok.row]
        simp only [tt, seval, hqb]
        exact ⟨_, _, vbE (by rw [g0, hq HQQ]), end0 rfl⟩
      have HQ : (quotB a && quotB b) = false := by simpa only [Bool.not_eq_true] using HQQ
      have hcase : quotB a = false ∨ (quotB a = true ∧ quotB b = false) := by cases h : quotB a <;> cases h' : quotB b <;> simp_all
      rcases hcase with hqa | ⟨hqa, hqb⟩
      case' inl =>
        refine call0 (l4Quoted_d a ha) ?_ ?_ ?_
        · decide
        · simp only [tt, seval, Tok.row]
        rintro r rfl
        simp only [tt, seval, Tok.row]
        simp only [tt, seval, hqa]
      case' inr =>
        refine call0 (l4Quoted_d a ha) ?_ ?_ ?_
        · decide
        · simp only [tt, seval, Tok.row]
        rintro r rfl
        simp only [tt, seval, Tok.row]
        simp only [tt, seval, hqa]
        refine call0 (l4Quoted_d b hb) ?_ ?_ ?_
        · decide
        · simp only [tt, seval, Tok.row]
        rintro r rfl
        simp only [tt, seval, Tok.row]
        simp only [tt, seval, hqb]
      all_goals
        rw [g0, he hww' HQ HT, gapS]
        by_cases h5a : a.kind = 5
        · rw [if_neg (not_not_intro h5a)]
          simp only [tt, seval, decide_eq_true h5a]
          refine And.intro (fun h5b => ?_) (fun h5b => ?_)
          · have h5b : ¬ b.kind = 5 := by simpa only [Bool.not_eq_true', decide_eq_false_iff_not] using h5b
            exact ⟨_, _, vbE (by rw [if_pos h5b]), end0 rfl⟩
          · have h5b : b.kind = 5 := by simpa only [Bool.not_eq_false', decide_eq_true_eq] using h5b
            rw [if_neg (not_not_intro h5b)]
            have hl0 := hpos h5b
            try simp only [tt, seval]
            refine And.intro (fun t1 => ?_) (fun t1 => ?_)
            · exact ⟨_, _, vbE (by rw [if_pos t1]), end0 rfl⟩
            · try simp only [tt, seval]
              refine And.intro (fun t2 => ?_) (fun t2 => ?_)
              · exact ⟨_, _, vbE (by rw [if_neg t1, if_pos t2]), end0 rfl⟩
              · try simp only [tt, seval]
                refine And.intro (fun t3 => ?_) (fun t3 => ?_)
                · try simp only [tt, seval]
                  rw [pu_at0 hl hl0, if_neg t1, if_neg t2, if_pos t3, heq hl0 61, heq hl0 62]
                  simp only [tt, seval]
                  by_cases hx : (l[0].toNat : Int) = 61
                  · simp only [tt, seval, decide_eq_true hx]
                    exact ⟨_, _, vbE rfl, end0 rfl⟩
                  · simp only [tt, seval, decide_eq_false hx]
                    rw [pu_at0 hl hl0]
                    simp only [tt, seval]
                    exact ⟨_, _, vbE rfl, end0 rfl⟩
                · try simp only [tt, seval]
                  refine And.intro (fun t4 => ?_) (fun t4 => ?_)
                  · try simp only [tt, seval]
                    rw [pu_at0 hl hl0, if_neg t1, if_neg t2, if_neg t3, if_pos t4, heq hl0 61]
                    simp only [tt, seval]
                    exact ⟨_, _, vbE rfl, end0 rfl⟩
                  · exact ⟨_, _, vbE (by rw [if_neg t1, if_neg t2, if_neg t3, if_neg t4]), end0 rfl⟩
        · simp only [tt, seval, decide_eq_false h5a]
          exact ⟨_, _, vbE (by rw [if_pos h5a]), end0 rfl⟩
set_option maxHeartbeats 2000000 in
theorem iNeedsGap_d (a b : Tok) (ha : a.text.size ≤ 1048576) (hb : b.text.size ≤ 1048576) : Cl Tryz.prog 80 [.ag (csOf a.row), .ag (csOf b.row)] [] fun r _ => r = vb (gapB a b) := by
  obtain ⟨l, hl⟩ : ∃ l, l = b.text.data.toList := ⟨_, rfl⟩
  have hll : l.length = b.text.size := by rw [hl]; exact size_toList b.text
  rw [Tok.row, Tok.row]
  refine cl_of_d follows_mixed false Tryz.func80 rfl (by kernel_rfl) ?_
  simp only [Tryz.f80, tt, seval]
  refine call0 (iTokenOk_d a ha) ?_ ?_ ?_
  · decide
  · simp only [tt, seval, Tok.row]
  rintro r rfl
  simp only [tt, seval, Tok.row]
  cases hoa : okTok a with
  | false =>
    simp only [tt, seval, hoa]
    exact ⟨_, _, vbE (by simp only [gapB, hoa, Bool.false_and, Bool.not_false, reduceIte]), end0 rfl⟩
  | true =>
  simp only [tt, seval, hoa]
  refine call0 (iTokenOk_d b hb) ?_ ?_ ?_
  · decide
  · simp only [tt, seval, Tok.row]
  rintro r rfl
  simp only [tt, seval, Tok.row]
  cases hob : okTok b with
  | false =>
    simp only [tt, seval, hob]
    exact ⟨_, _, vbE (by simp only [gapB, hoa, hob, Bool.and_false, Bool.not_false, reduceIte]), end0 rfl⟩
  | true =>
  simp only [tt, seval, hob]
  have g0 : gapB a b = gapC a b := by simp only [gapB, hoa, hob, Bool.and_self, Bool.not_true, Bool.false_eq_true, reduceIte]
  refine call0 (isWord_d a ha) ?_ ?_ ?_
  · decide
  · simp only [tt, seval, Tok.row]
  rintro r rfl
  simp only [tt, seval, Tok.row]
  have hw : (wordB a && wordB b) = true → gapC a b = true := fun h => by simp only [gapC, h, Bool.true_or, reduceIte]
  have hq : (quotB a && quotB b) = true → gapC a b = true := fun h => by simp only [gapC, h, Bool.true_or, Bool.or_true, reduceIte]
  have ht : (decide (a.kind = 4) && decide (b.kind = 4)) = true → gapC a b = true := fun h => by simp only [gapC, h, Bool.or_true, reduceIte]
  have he : (wordB a && wordB b) = false → (quotB a && quotB b) = false → (decide (a.kind = 4) && decide (b.kind = 4)) = false → gapC a b = gapS a b := fun h1 h2 h3 => by simp only [gapC, h1, h2, h3, Bool.or_self, Bool.false_eq_true, reduceIte]
  have hpos (h5 : b.kind = 5) : 0 < l.length := by
    have : signB b.text = true := by rw [okTok, if_neg (by omega), if_neg (by omega), if_neg (by omega), if_neg (by omega), if_pos h5] at hob; exact hob
    have := sign_pos this
    omega
  have heq (hl0 : 0 < l.length) (n : UInt8) : decide (b.text.data.toList.headD 0 = n) = decide ((l[0].toNat : Int) = n.toNat) := by
    rw [← hl, decide_eq_decide]
    have : l.headD 0 = l[0] := by cases l with | nil => exact absurd hl0 (Nat.lt_irrefl _) | cons x r => rfl
    rw [this, ← UInt8.toNat_inj]; omega
  by_cases hww : (wordB a && wordB b) = true
  · have hwa : wordB a = true := by rw [Bool.and_eq_true] at hww; exact hww.1
    have hwb : wordB b = true := by rw [Bool.and_eq_true] at hww; exact hww.2
    simp only [tt, seval, hwa]
    refine call0 (isWord_d b hb) ?_ ?_ ?_
    · decide
    · simp only [tt, seval, Tok.row]
    rintro r rfl
    simp only [tt, seval, Tok.row]
    simp only [tt, seval, hwb]
    exact ⟨_, _, vbE (by rw [g0, hw hww]), end0 rfl⟩
  have hww' : (wordB a && wordB b) = false := by simpa only [Bool.not_eq_true] using hww
  have hcase : wordB a = false ∨ (wordB a = true ∧ wordB b = false) := by cases h : wordB a <;> cases h' : wordB b <;> simp_all
  rcases hcase with hwa | ⟨hwa, hwb⟩
  case' inl => simp only [tt, seval, hwa]
  case' inr =>
    simp only [tt, seval, hwa]
    refine call0 (isWord_d b hb) ?_ ?_ ?_
    · decide
    · simp only [tt, seval, Tok.row]
    rintro r rfl
    simp only [tt, seval, Tok.row]
    simp only [tt, seval, hwb]
  all_goals
    by_cases HQQ : (quotB a && quotB b) = true
    · have hqa : quotB a = true := by rw [Bool.and_eq_true] at HQQ; exact HQQ.1
      have hqb : quotB b = true := by rw [Bool.and_eq_true] at HQQ; exact HQQ.2
      refine call0 (isQuotedName_d a ha) ?_ ?_ ?_
      · decide
      · simp only [tt, seval, Tok.row]
      rintro r rfl
      simp only [tt, seval, Tok.row]
      simp only [tt, seval, hqa]
      refine call0 (isQuotedName_d b hb) ?_ ?_ ?_
      · decide
      · simp only [tt, seval, Tok.row]
      rintro r rfl
      simp only [tt, seval, Tok.row]
      simp only [tt, seval, hqb]
      exact ⟨_, _, vbE (by rw [g0, hq HQQ]), end0 rfl⟩
    have HQ : (quotB a && quotB b) = false := by simpa only [Bool.not_eq_true] using HQQ
    have hcase : quotB a = false ∨ (quotB a = true ∧ quotB b = false) := by cases h : quotB a <;> cases h' : quotB b <;> simp_all
    rcases hcase with hqa | ⟨hqa, hqb⟩
    case' inl =>
      refine call0 (isQuotedName_d a ha) ?_ ?_ ?_
      · decide
      · simp only [tt, seval, Tok.row]
      rintro r rfl
      simp only [tt, seval, Tok.row]
      simp only [tt, seval, hqa]
    case' inr =>
      refine call0 (isQuotedName_d a ha) ?_ ?_ ?_
      · decide
      · simp only [tt, seval, Tok.row]
      rintro r rfl
      simp only [tt, seval, Tok.row]
      simp only [tt, seval, hqa]
      refine call0 (isQuotedName_d b hb) ?_ ?_ ?_
      · decide
      · simp only [tt, seval, Tok.row]
      rintro r rfl
      simp only [tt, seval, Tok.row]
      simp only [tt, seval, hqb]
    all_goals
      by_cases HTT : (decide (a.kind = 4) && decide (b.kind = 4)) = true
      · have hta : a.kind = 4 := by rw [Bool.and_eq_true] at HTT; exact of_decide_eq_true HTT.1
        have htb : b.kind = 4 := by rw [Bool.and_eq_true] at HTT; exact of_decide_eq_true HTT.2
        simp only [tt, seval, decide_eq_true hta]
        simp only [tt, seval, decide_eq_true htb, htb]
        exact ⟨_, _, vbE (by rw [g0, ht HTT]), end0 rfl⟩
      have HT : (decide (a.kind = 4) && decide (b.kind = 4)) = false := by simpa only [Bool.not_eq_true] using HTT
      have hcase : ¬ a.kind = 4 ∨ (a.kind = 4 ∧ ¬ b.kind = 4) := by cases h : decide (a.kind = 4) <;> cases h' : decide (b.kind = 4) <;> simp_all
      rcases hcase with hta | ⟨hta, htb⟩
      case' inl => simp only [tt, seval, decide_eq_false hta]
      case' inr =>
        simp only [tt, seval, decide_eq_true hta]
        simp only [tt, seval, decide_eq_false htb, htb]
      all_goals
        rw [g0, he hww' HQ HT, gapS]
        by_cases h5a : a.kind = 5
        · rw [if_neg (not_not_intro h5a)]
          simp only [tt, seval, decide_eq_true h5a]
          refine And.intro (fun h5b => ?_) (fun h5b => ?_)
          · have h5b : ¬ b.kind = 5 := by simpa only [Bool.not_eq_true', decide_eq_false_iff_not] using h5b
            exact ⟨_, _, vbE (by rw [if_pos h5b]), end0 rfl⟩
          · have h5b : b.kind = 5 := by simpa only [Bool.not_eq_false', decide_eq_true_eq] using h5b
            rw [if_neg (not_not_intro h5b)]
            have hl0 := hpos h5b
            try simp only [tt, seval]
            refine And.intro (fun t1 => ?_) (fun t1 => ?_)
            · exact ⟨_, _, vbE (by rw [if_pos t1]), end0 rfl⟩
            · try simp only [tt, seval]
              refine And.intro (fun t2 => ?_) (fun t2 => ?_)
              · exact ⟨_, _, vbE (by rw [if_neg t1, if_pos t2]), end0 rfl⟩
              · try simp only [tt, seval]
                refine And.intro (fun t3 => ?_) (fun t3 => ?_)
                · try simp only [tt, seval]
                  rw [pu_at0 hl hl0, if_neg t1, if_neg t2, if_pos t3, heq hl0 61, heq hl0 62]
                  simp only [tt, seval]
                  by_cases hx : (l[0].toNat : Int) = 61
                  · simp only [tt, seval, decide_eq_true hx]
                    exact ⟨_, _, vbE rfl, end0 rfl⟩
                  · simp only [tt, seval, decide_eq_false hx]
                    rw [pu_at0 hl hl0]
                    simp only [tt, seval]
                    exact ⟨_, _, vbE rfl, end0 rfl⟩
                · try simp only [tt, seval]
                  refine And.intro (fun t4 => ?_) (fun t4 => ?_)
                  · try simp only [tt, seval]
                    rw [pu_at0 hl hl0, if_neg t1, if_neg t2, if_neg t3, if_pos t4, heq hl0 61]
                    simp only [tt, seval]
                    exact ⟨_, _, vbE rfl, end0 rfl⟩
                  · exact ⟨_, _, vbE (by rw [if_neg t1, if_neg t2, if_neg t3, if_neg t4]), end0 rfl⟩
        · simp only [tt, seval, decide_eq_false h5a]
          exact ⟨_, _, vbE (by rw [if_pos h5a]), end0 rfl⟩
def jn (l : List Tok) (i : Nat) : List UInt8 := if h : i < l.length then (if 0 < i ∧ gapB (l[i - 1]'(by omega)) l[i] = true then [32] else []) ++ (tokT l[i]).data.toList else []
def joinL (l : List Tok) (k : Nat) : List UInt8 := (List.range k).flatMap (jn l)
theorem joinL_succ (l : List Tok) (k : Nat) : joinL l (k + 1) = joinL l k ++ jn l k := by
  unfold joinL
  rw [List.range_succ, List.flatMap_append]; simp
theorem joinL_mono (l : List Tok) {k m : Nat} (h : k ≤ m) : (joinL l k).length ≤ (joinL l m).length := by
  induction m with
  | zero => rw [Nat.le_zero.1 h]; exact Nat.le_refl _
  | succ m ih =>
    by_cases e : k = m + 1
    · subst e; exact Nat.le_refl _
    · rw [joinL_succ, List.length_append]; exact Nat.le_trans (ih (by omega)) (Nat.le_add_right _ _)
theorem jn_at (l : List Tok) {i : Nat} (h : i < l.length) : jn l i = (if 0 < i ∧ gapB (l[i - 1]'(by omega)) l[i] = true then [32] else []) ++ (tokT l[i]).data.toList := dif_pos h
def spacedB (l : List Tok) : ByteArray := if l.all okTok = true then (if 2000 < (joinL l l.length).length then ⟨#[]⟩ else ⟨(joinL l l.length).toArray⟩) else ⟨#[]⟩
theorem spaced_bad {l : List Tok} {i : Nat} (h : i < l.length) (hb : okTok l[i] = false) : spacedB l = ⟨#[]⟩ := by
  unfold spacedB
  refine if_neg fun ha => ?_
  have := List.all_eq_true.1 ha _ (List.getElem_mem h)
  rw [hb] at this; cases this
theorem all_of {l : List Tok} (h : ∀ j (hj : j < l.length), okTok l[j] = true) : l.all okTok = true := List.all_eq_true.2 fun x hx => by
  obtain ⟨j, hj, rfl⟩ := List.mem_iff_getElem.1 hx
  exact h j hj
theorem bytesD_32 : ([.lit (.int .u8 32)] : List D) = bytesD [32] := rfl
theorem l4Join_d (l : List Tok) (hT : ∀ t ∈ l, t.text.size ≤ 1048576) (hb : (joinL l l.length).length ≤ 50000000) : Cl Tryz.prog 56 [.c (.sl l.length (l.flatMap Tok.row) none), vb false] [] fun r _ => r = vs (spacedB l) := by
  refine cl_of_d follows_mixed false Tryz.func56 rfl (by kernel_rfl) ?_
  simp only [Tryz.f56, tt, seval]
  refine dLoop.gh [.ren 7 46] ⟨by decide, by decide, ?_⟩
  refine dLoop0.intro (fun f L p => ∃ (i : Nat) (bs : List UInt8), f 6 = vi i ∧ f 5 = .c (.s 46 bs.length) ∧ i ≤ l.length ∧ bs = joinL l i ∧ (∀ j (hj : j < l.length), j < i → okTok l[j] = true) ∧ L = [(46, .arr 5 bs.length (bytesD bs) none)] ∧ p = none) (fun f _ _ => (l.length - ixS (f 6)).toNat) [(46, .arr 5 0 (bytesD []) none)] none ⟨SubO.cons rfl (SubO.nil _), PoSub.none _, ?_⟩ ?_
  · simp only [tt, seval]
    exact ⟨0, [], rfl, rfl, by omega, rfl, fun j _ h => absurd h (Nat.not_lt_zero _), rfl⟩
  · rintro g L p ⟨i, bs, h6, h5, hi, hbs, hok, rfl, rfl⟩
    simp only [tt, seval] at h6 h5
    simp only [tt, seval, h6, h5, Int.ofNat_lt]
    refine fun _ => And.intro (fun hlt => ?_) (fun hge => ?_)
    · have hsz : bs.length + (jn l i).length ≤ 50000000 := by
        have := joinL_mono l (show i + 1 ≤ l.length by omega)
        rw [joinL_succ, List.length_append] at this
        rw [hbs]; omega
      have hjn := jn_at l hlt
      have htx := hT _ (List.getElem_mem hlt)
      refine ⟨by omega, by omega, _, drop_row Tok.row_len (List.getElem?_eq_getElem hlt), Tok.ne _ _, ?_⟩
      simp only [tt, seval, h6, h5, Tok.tk]
      refine call0 (TokenOk_d l[i] htx) ?_ ?_ ?_
      · decide
      · simp only [tt, seval, h6, h5, Tok.row]
      rintro r rfl
      simp only [tt, seval, h6, h5, Tok.row]
      refine And.intro (fun hbad => ?_) (fun hgood => ?_)
      · exact ⟨_, _, vsE (spaced_bad hlt (by simpa only [Bool.not_eq_true'] using hbad)).symm, end0 rfl⟩
      · have hgood : okTok l[i] = true := by simpa only [Bool.not_eq_false'] using hgood
        have hok' : ∀ j (hj : j < l.length), j < i + 1 → okTok l[j] = true := fun j hj hji => by
          by_cases e : j = i
          · subst e; exact hgood
          · exact hok j hj (by omega)
        try simp only [tt, seval, h6, h5]
        refine dDrawn.intro [] (pln [0, 2, 4, 6, 8, 10, 12, 14, 16, 18, 20, 22, 24, 26, 29, 30, 32]) (by kernel_rfl) ?_
        simp only [tt, seval]
        simp only [tt, seval, h6, h5]
        have nogap (hng : ¬ (0 < i ∧ gapB (l[i - 1]'(by omega)) l[i] = true)) : jn l i = (tokT l[i]).data.toList := by rw [hjn, if_neg hng]; rfl
        by_cases hi0 : (0 : Int) < i
        · have hlt1 : i - 1 < l.length := by omega
          simp only [tt, seval, decide_eq_true hi0, h6, h5]
          rw [wrap_id (n := (i : Int) - 1) (by omega) (by omega), show (i : Int) - 1 = ((i - 1 : Nat) : Int) by omega]
          refine ⟨by omega, by omega, _, drop_row Tok.row_len (List.getElem?_eq_getElem hlt1), Tok.ne _ _, ?_⟩
          simp only [tt, seval, h6, h5, Tok.tk]
          refine ⟨by omega, by omega, _, drop_row Tok.row_len (List.getElem?_eq_getElem hlt), Tok.ne _ _, ?_⟩
          simp only [tt, seval, h6, h5, Tok.tk]
          refine call0 (NeedsGap_d (l[i - 1]'hlt1) l[i] (hT _ (List.getElem_mem hlt1)) htx) ?_ ?_ ?_
          · decide
          · simp only [tt, seval, h6, h5, Tok.row]
          rintro r rfl
          simp only [tt, seval, h6, h5, Tok.row]
          cases hgp : gapB (l[i - 1]'hlt1) l[i] with
          | true =>
            have hjn' : jn l i = [32] ++ (tokT l[i]).data.toList := by rw [hjn, if_pos ⟨by omega, hgp⟩]
            have hsz' : bs.length + 1 + (tokT l[i]).size ≤ 50000000 := by rw [hjn', List.length_append, size_toList] at hsz; simp only [List.length_singleton] at hsz; omega
            simp only [tt, seval, hgp, h6, h5]
            refine ⟨by kernel_rfl, ⟨by simp only [maxLen]; omega, by omega⟩, ?_⟩
            rw [bytesD_32]
            refine ⟨by omega, by omega, _, drop_row Tok.row_len (List.getElem?_eq_getElem hlt), Tok.ne _ _, ?_⟩
            simp only [tt, seval, h6, h5, Tok.tk]
            refine call0 (TokenText_d l[i] htx) ?_ ?_ ?_
            · decide
            · simp only [tt, seval, h6, h5, Tok.row]
            rintro r rfl
            simp only [tt, seval, h6, h5, Tok.row]
            refine ⟨by kernel_rfl, by rw [bytesD_len, size_toList, Nat.mul_one], ⟨by simp only [maxLen]; omega, by omega⟩, ?_⟩
            have e : ((bs ++ [32]) ++ (tokT l[i]).data.toList).length = bs.length + 1 + (tokT l[i]).size := by rw [List.length_append, size_toList]; simp
            rw [bytesD_app, bytesD_app, ← e, wrap_id (n := (i : Int) + 1) (by omega) (by omega)]
            exact ⟨_, none, SubO.cons rfl (SubO.nil _), PoSub.none _, ⟨i + 1, _, rfl, rfl, by omega, by rw [joinL_succ, hjn', hbs, List.append_assoc], hok', rfl, rfl⟩, by simp only [ixS]; omega⟩
          | false =>
            simp only [tt, seval, hgp, h6, h5]
            have hjn' := nogap (by rw [hgp]; simp)
            have hsz' : bs.length + (tokT l[i]).size ≤ 50000000 := by rw [hjn', size_toList] at hsz; omega
            refine ⟨by omega, by omega, _, drop_row Tok.row_len (List.getElem?_eq_getElem hlt), Tok.ne _ _, ?_⟩
            simp only [tt, seval, h6, h5, Tok.tk]
            refine call0 (TokenText_d l[i] htx) ?_ ?_ ?_
            · decide
            · simp only [tt, seval, h6, h5, Tok.row]
            rintro r rfl
            simp only [tt, seval, h6, h5, Tok.row]
            refine ⟨by kernel_rfl, by rw [bytesD_len, size_toList, Nat.mul_one], ⟨by simp only [maxLen]; omega, by omega⟩, ?_⟩
            have e : (bs ++ (tokT l[i]).data.toList).length = bs.length + (tokT l[i]).size := by rw [List.length_append, size_toList]
            rw [bytesD_app, ← e, wrap_id (n := (i : Int) + 1) (by omega) (by omega)]
            exact ⟨_, none, SubO.cons rfl (SubO.nil _), PoSub.none _, ⟨i + 1, _, rfl, rfl, by omega, by rw [joinL_succ, hjn', hbs], hok', rfl, rfl⟩, by simp only [ixS]; omega⟩
        · simp only [tt, seval, decide_eq_false hi0, h6, h5]
          have hjn' := nogap (by omega)
          have hsz' : bs.length + (tokT l[i]).size ≤ 50000000 := by rw [hjn', size_toList] at hsz; omega
          refine ⟨by omega, by omega, _, drop_row Tok.row_len (List.getElem?_eq_getElem hlt), Tok.ne _ _, ?_⟩
          simp only [tt, seval, h6, h5, Tok.tk]
          refine call0 (TokenText_d l[i] htx) ?_ ?_ ?_
          · decide
          · simp only [tt, seval, h6, h5, Tok.row]
          rintro r rfl
          simp only [tt, seval, h6, h5, Tok.row]
          refine ⟨by kernel_rfl, by rw [bytesD_len, size_toList, Nat.mul_one], ⟨by simp only [maxLen]; omega, by omega⟩, ?_⟩
          have e : (bs ++ (tokT l[i]).data.toList).length = bs.length + (tokT l[i]).size := by rw [List.length_append, size_toList]
          rw [bytesD_app, ← e, wrap_id (n := (i : Int) + 1) (by omega) (by omega)]
          exact ⟨_, none, SubO.cons rfl (SubO.nil _), PoSub.none _, ⟨i + 1, _, rfl, rfl, by omega, by rw [joinL_succ, hjn', hbs], hok', rfl, rfl⟩, by simp only [ixS]; omega⟩
    · have hie : i = l.length := by omega
      subst hie
      have hall := all_of fun j hj => hok j hj hj
      refine fun _ => And.intro (fun h2 => ?_) (fun h2 => ?_)
      · exact ⟨_, _, vsE (by rw [spacedB, if_pos hall, if_pos (by rw [← hbs]; omega)]), end0 rfl⟩
      · try simp only [tt, seval]
        refine ⟨by kernel_rfl, by simp only [maxLen]; omega, bs, rfl, rfl, ?_⟩
        simp only [tt, seval]
        exact ⟨_, _, vsE (by rw [spacedB, if_pos hall, if_neg (by rw [← hbs]; omega), hbs]), end0 rfl⟩
theorem Spaced_d (l : List Tok) (hT : ∀ t ∈ l, t.text.size ≤ 1048576) (hb : (joinL l l.length).length ≤ 50000000) : Cl Tryz.prog 25 [.c (.sl l.length (l.flatMap Tok.row) none)] [] fun r _ => r = vs (spacedB l) := by
  refine cl_of_d follows_mixed false Tryz.func25 rfl (by kernel_rfl) ?_
  simp only [Tryz.f25, tt, seval]
  refine call0 (l4Join_d l hT hb) ?_ ?_ ?_
  · decide
  · simp only [tt, seval]
  rintro r rfl
  simp only [tt, seval]
  exact ⟨_, _, rfl, end0 rfl⟩
theorem len_app (a : List UInt8) (s : ByteArray) : a.length + s.size = (a ++ s.data.toList).length := by rw [List.length_append, size_toList]
theorem Len_d (n : Nat) (ds : List D) : Cl Tryz.prog 140 [.c (.p 9000 0)] [[.self, .ow 5 n ds none]] fun r os => r = vi n ∧ os = [[.self, .ow 5 n ds none]] := by
  refine cl_of_d follows_mixed false Tryz.func140 rfl (by kernel_rfl) ?_
  simp only [Tryz.f140, tt, seval]
  refine fun _ => ⟨vi n, [[.self, .ow 5 n ds none]], ⟨rfl, rfl⟩, endOk ?_⟩
  simp only [tt, seval]
theorem joined_d (l : List Tok) (hT : ∀ t ∈ l, t.text.size ≤ 1048576) (hb : (joinL l l.length).length ≤ 50000000) : Cl Tryz.prog 79 [.c (.sl l.length (l.flatMap Tok.row) none), .c (.fn 80 [] [])] [] fun r _ => r = vs (spacedB l) := by
  refine cl_of_d follows_mixed false Tryz.func79 rfl (by kernel_rfl) ?_
  simp only [Tryz.f79, tt, seval]
  refine fun _ => ?_
  refine dLoop.gh [.virtC 5 1 10010034 5] ⟨by decide, ?_⟩
  simp only [tt, seval]
  refine dLoop0.intro (fun f L p => ∃ (i : Nat) (bs : List UInt8) (F : Fp), f 11 = vi i ∧ i ≤ l.length ∧ bs = joinL l i ∧ (∀ j (hj : j < l.length), j < i → okTok l[j] = true) ∧ L = [(5, .str [.self, .s 10010034 bs.length]), (10010034, .arr 5 bs.length (bytesD bs) F)] ∧ p = none) (fun f _ _ => (l.length - ixS (f 11)).toNat) [(5, .str [.self, .s 10010034 0]), (10010034, .arr 5 0 (bytesD []) (some []))] none ⟨SubO.cons rfl (SubO.cons rfl (SubO.nil _)), PoSub.none _, ?_⟩ ?_
  · simp only [tt, seval]
    exact ⟨0, [], some [], rfl, by omega, rfl, fun j _ h => absurd h (Nat.not_lt_zero _), rfl⟩
  · rintro g L p ⟨i, bs, F, h11, hi, hbs, hok, rfl, rfl⟩
    simp only [tt, seval] at h11
    simp only [tt, seval, h11, Int.ofNat_lt]
    refine And.intro (fun hlt => ?_) (fun hge => ?_)
    · have hsz : bs.length + (jn l i).length ≤ 50000000 := by
        have := joinL_mono l (show i + 1 ≤ l.length by omega)
        rw [joinL_succ, List.length_append] at this
        rw [hbs]; omega
      have hjn := jn_at l hlt
      have htx := hT _ (List.getElem_mem hlt)
      refine ⟨by omega, by omega, _, drop_row Tok.row_len (List.getElem?_eq_getElem hlt), Tok.ne _ _, ?_⟩
      simp only [tt, seval, h11, Tok.tk, Tok.row]
      refine call0 (iTokenOk_d l[i] htx) ?_ ?_ ?_
      · decide
      · simp only [tt, seval, h11, Tok.row]
      rintro r rfl
      simp only [tt, seval, h11, Tok.row]
      refine And.intro (fun hbad => ?_) (fun hgood => ?_)
      · exact ⟨_, _, vsE (spaced_bad hlt (by simpa only [Bool.not_eq_true'] using hbad)).symm, end0 rfl⟩
      · have hgood : okTok l[i] = true := by simpa only [Bool.not_eq_false'] using hgood
        have hok' : ∀ j (hj : j < l.length), j < i + 1 → okTok l[j] = true := fun j hj hji => by
          by_cases e : j = i
          · subst e; exact hgood
          · exact hok j hj (by omega)
        try simp only [tt, seval, h11]
        refine dDrawn.intro [] (pln [0, 2, 4, 6, 8, 10, 12, 14, 16, 18, 21, 22]) (by kernel_rfl) ?_
        simp only [tt, seval]
        try simp only [tt, seval, h11]
        have nogap (hng : ¬ (0 < i ∧ gapB (l[i - 1]'(by omega)) l[i] = true)) : jn l i = (tokT l[i]).data.toList := by rw [hjn, if_neg hng]; rfl
        by_cases hi0 : (0 : Int) < i
        · have hlt1 : i - 1 < l.length := by omega
          simp only [tt, seval, decide_eq_true hi0, h11]
          rw [wrap_id (n := (i : Int) - 1) (by omega) (by omega), show (i : Int) - 1 = ((i - 1 : Nat) : Int) by omega]
          refine ⟨by omega, by omega, _, drop_row Tok.row_len (List.getElem?_eq_getElem hlt1), Tok.ne _ _, ?_⟩
          simp only [tt, seval, h11, Tok.tk]
          refine call0 (iNeedsGap_d (l[i - 1]'hlt1) l[i] (hT _ (List.getElem_mem hlt1)) htx) ?_ ?_ ?_
          · decide
          · simp only [tt, seval, h11, Tok.row]
          rintro r rfl
          simp only [tt, seval, h11, Tok.row]
          cases hgp : gapB (l[i - 1]'hlt1) l[i] with
          | true =>
            have hjn' : jn l i = [32] ++ (tokT l[i]).data.toList := by rw [hjn, if_pos ⟨by omega, hgp⟩]
            have hsz' : bs.length + 1 + (tokT l[i]).size ≤ 50000000 := by rw [hjn', List.length_append, size_toList] at hsz; simp only [List.length_singleton] at hsz; omega
            simp only [tt, seval, hgp, h11]
            refine CallQ.intro (WriteString_d bs ⟨#[32]⟩ (by show bs.length + 1 ≤ _; omega)) ?_ ?_ ?_
            · decide
            · simp only [tt, seval, h11]
            rintro r os ⟨rfl, rfl⟩ hos
            simp only [tt, seval, h11]
            refine call0 (iTokenText_d l[i] htx) ?_ ?_ ?_
            · decide
            · simp only [tt, seval, h11, Tok.row]
            rintro r rfl
            simp only [tt, seval, h11, Tok.row]
            have e1 : bs.length + (⟨#[32]⟩ : ByteArray).size = (bs ++ (⟨#[32]⟩ : ByteArray).data.toList).length := by rw [List.length_append]; rfl
            rw [e1]
            refine CallQ.intro (WriteString_d (bs ++ (⟨#[32]⟩ : ByteArray).data.toList) (tokT l[i]) (by rw [← e1]; show bs.length + 1 + _ ≤ _; omega)) ?_ ?_ ?_
            · decide
            · simp only [tt, seval, h11]
            rintro r os ⟨rfl, rfl⟩ hos
            simp only [tt, seval, h11]
            rw [len_app (bs ++ [32]) (tokT l[i]), wrap_id (n := (i : Int) + 1) (by omega) (by omega)]
            exact ⟨[(5, .str [.self, .s 10010034 ((bs ++ [32]) ++ (tokT l[i]).data.toList).length]), (10010034, .arr 5 ((bs ++ [32]) ++ (tokT l[i]).data.toList).length (bytesD ((bs ++ [32]) ++ (tokT l[i]).data.toList)) none)], none, SubO.cons rfl (SubO.cons rfl (SubO.nil _)), PoSub.none _, ⟨i + 1, _, none, rfl, by omega, by rw [joinL_succ, hjn', hbs, List.append_assoc], hok', rfl, rfl⟩, by simp only [ixS]; omega⟩
          | false =>
            have hjn' := nogap (by rw [hgp]; simp)
            have hsz' : bs.length + (tokT l[i]).size ≤ 50000000 := by rw [hjn', size_toList] at hsz; omega
            simp only [tt, seval, hgp, h11]
            try simp only [tt, seval, h11]
            refine call0 (iTokenText_d l[i] htx) ?_ ?_ ?_
            · decide
            · simp only [tt, seval, h11, Tok.row]
            rintro r rfl
            simp only [tt, seval, h11, Tok.row]
            refine CallQ.intro (WriteString_d bs (tokT l[i]) (by omega)) ?_ ?_ ?_
            · decide
            · simp only [tt, seval, h11]
            rintro r os ⟨rfl, rfl⟩ hos
            simp only [tt, seval, h11]
            rw [len_app bs (tokT l[i]), wrap_id (n := (i : Int) + 1) (by omega) (by omega)]
            exact ⟨[(5, .str [.self, .s 10010034 (bs ++ (tokT l[i]).data.toList).length]), (10010034, .arr 5 (bs ++ (tokT l[i]).data.toList).length (bytesD (bs ++ (tokT l[i]).data.toList)) none)], none, SubO.cons rfl (SubO.cons rfl (SubO.nil _)), PoSub.none _, ⟨i + 1, _, none, rfl, by omega, by rw [joinL_succ, hjn', hbs], hok', rfl, rfl⟩, by simp only [ixS]; omega⟩
        · have hjn' := nogap (by omega)
          have hsz' : bs.length + (tokT l[i]).size ≤ 50000000 := by rw [hjn', size_toList] at hsz; omega
          simp only [tt, seval, decide_eq_false hi0, h11]
          try simp only [tt, seval, h11]
          refine call0 (iTokenText_d l[i] htx) ?_ ?_ ?_
          · decide
          · simp only [tt, seval, h11, Tok.row]
          rintro r rfl
          simp only [tt, seval, h11, Tok.row]
          refine CallQ.intro (WriteString_d bs (tokT l[i]) (by omega)) ?_ ?_ ?_
          · decide
          · simp only [tt, seval, h11]
          rintro r os ⟨rfl, rfl⟩ hos
          simp only [tt, seval, h11]
          rw [len_app bs (tokT l[i]), wrap_id (n := (i : Int) + 1) (by omega) (by omega)]
          exact ⟨[(5, .str [.self, .s 10010034 (bs ++ (tokT l[i]).data.toList).length]), (10010034, .arr 5 (bs ++ (tokT l[i]).data.toList).length (bytesD (bs ++ (tokT l[i]).data.toList)) none)], none, SubO.cons rfl (SubO.cons rfl (SubO.nil _)), PoSub.none _, ⟨i + 1, _, none, rfl, by omega, by rw [joinL_succ, hjn', hbs], hok', rfl, rfl⟩, by simp only [ixS]; omega⟩
    · have hie : i = l.length := by omega
      subst hie
      have hall := all_of fun j hj => hok j hj hj
      try simp only [tt, seval, h11]
      have hbl : bs.length ≤ 50000000 := by rw [hbs]; exact hb
      refine CallQ.intro (Len_d bs.length (bytesD bs)) ?_ ?_ ?_
      · decide
      · simp only [tt, seval, h11]
      rintro r os ⟨rfl, rfl⟩ hos
      simp only [tt, seval, h11]
      refine And.intro (fun h2 => ?_) (fun h2 => ?_)
      · exact ⟨_, _, vsE (by rw [spacedB, if_pos hall, if_pos (by rw [← hbs]; omega)]), end0 rfl⟩
      · try simp only [tt, seval, h11]
        refine CallQ.intro (String_d bs (by omega)) ?_ ?_ ?_
        · decide
        · simp only [tt, seval, h11]
        rintro r os ⟨rfl, rfl⟩ hos
        simp only [tt, seval, h11]
        exact ⟨_, _, vsE (by rw [spacedB, if_pos hall, if_neg (by rw [← hbs]; omega), hbs]), end0 rfl⟩
theorem iSpaced_d (l : List Tok) (hT : ∀ t ∈ l, t.text.size ≤ 1048576) (hb : (joinL l l.length).length ≤ 50000000) : Cl Tryz.prog 32 [.c (.sl l.length (l.flatMap Tok.row) none)] [] fun r _ => r = vs (spacedB l) := by
  refine cl_of_d follows_mixed false Tryz.func32 rfl (by kernel_rfl) ?_
  simp only [Tryz.f32, tt, seval]
  refine call0 (joined_d l hT hb) ?_ ?_ ?_
  · decide
  · simp only [tt, seval]
  rintro r rfl
  simp only [tt, seval]
  exact ⟨_, _, rfl, end0 rfl⟩
def Expr.kind : Expr → Int | .mk k _ _ _ _ _ _ _ => k
def Expr.op : Expr → Int | .mk _ o _ _ _ _ _ _ => o
def Expr.kids : Expr → List Expr | .mk _ _ _ _ _ _ k _ => k
def Expr.sub : Expr → List Query | .mk _ _ _ _ _ _ _ s => s
def bl (op : Int) : Int := if op = 1 then 1 else if op = 2 then 2 else if 3 ≤ op ∧ op ≤ 8 then 4 else if op = 9 then 5 else if op = 10 ∨ op = 11 then 6 else if 12 ≤ op ∧ op ≤ 14 then 7 else 0
def lv (k op : Int) : Int := if k = 4 then bl op else if k = 3 then (if op = 15 then 3 else if op = 16 then 8 else 0) else if 5 ≤ k ∧ k ≤ 8 then 4 else if k = 1 ∨ k = 2 ∨ k = 9 then 9 else 0
def lvE (e : Expr) : Int := lv e.kind e.op
theorem lv_bounds (k op : Int) : 0 ≤ lv k op ∧ lv k op ≤ 9 := by unfold lv bl; (repeat' split) <;> omega
def nd (kind op : Int) (k : Nat) : Int := if lv kind op = 0 ∨ lv kind op = 9 then 0 else if kind = 4 then (if lv kind op = 4 then 5 else if k = 0 then lv kind op else lv kind op + 1) else if kind = 3 then lv kind op else if kind = 7 ∧ 0 < k then 1 else 5
def wrapB (kind op : Int) (kids : List Expr) (k : Nat) : Bool := decide (lvE (kids.getD k (.mk 0 0 false ⟨0, 0, ⟨#[]⟩⟩ ⟨#[]⟩ ⟨#[]⟩ [] [])) < nd kind op k)
theorem binLevel_d (op : Int) : Cl Tryz.prog 198 [vi op] [] fun r _ => r = vi (bl op) := by
  refine cl_of_d follows_mixed false Tryz.func198 rfl (by kernel_rfl) ?_
  simp only [Tryz.f198, tt, seval]
  all_goals repeat' first | (refine And.intro (fun h => ?_) (fun h => ?_) <;> try simp only [tt, seval]) | (intro _; try simp only [tt, seval])
  all_goals first | contradiction | exact ⟨_, _, viE (by subst_vars; rfl), end0 rfl⟩ | exact ⟨_, _, viE (by unfold bl; (repeat' split) <;> omega), end0 rfl⟩
theorem iLevelOf_d (e : Expr) : Cl Tryz.prog 135 [.ag (csOf e.row)] [] fun r _ => r = vi (lvE e) := by
  obtain ⟨kind, op, not, val, qual, name, kids, sub⟩ := e
  rw [Expr.row_mk, lvE, Expr.kind, Expr.op]
  refine cl_of_d follows_mixed false Tryz.func135 rfl (by kernel_rfl) ?_
  simp only [Tryz.f135, tt, seval]
  refine And.intro (fun h4 => ?_) (fun h4 => ?_)
  · skip
    refine call0 (binLevel_d op) ?_ ?_ ?_
    · decide
    · simp only [tt, seval]
    rintro r rfl
    simp only [tt, seval]
    exact ⟨_, _, viE (by rw [lv, if_pos h4]), end0 rfl⟩
  try simp only [tt, seval]
  all_goals repeat' first | (refine And.intro (fun h => ?_) (fun h => ?_) <;> try simp only [tt, seval]) | (intro _; try simp only [tt, seval])
  all_goals exact ⟨_, _, viE (by unfold lv; (repeat' split) <;> omega), end0 rfl⟩
def lvT : List Int := [0, 1, 2, 4, 4, 4, 4, 4, 4, 5, 6, 6, 7, 7, 7]
theorem lvT_row : ([.lit (.int .i64 0), .lit (.int .i64 1), .lit (.int .i64 2), .lit (.int .i64 4), .lit (.int .i64 4), .lit (.int .i64 4), .lit (.int .i64 4), .lit (.int .i64 4), .lit (.int .i64 4), .lit (.int .i64 5), .lit (.int .i64 6), .lit (.int .i64 6), .lit (.int .i64 7), .lit (.int .i64 7), .lit (.int .i64 7)] : List D) = lvT.flatMap irow := rfl
theorem irow_len (n : Int) : (irow n).length = 1 := rfl
theorem irow_tk (v : Int) (r : List D) : takeD 1 (irow v ++ r) = some (irow v) := takeD_row rfl
theorem lvT_get : ∀ n : Fin 15, 1 ≤ n.1 → lvT[n.1]'n.2 = bl n.1 := by decide
theorem LevelOf_d (e : Expr) : Cl Tryz.prog 119 [.ag (csOf e.row)] [] fun r _ => r = vi (lvE e) := by
  obtain ⟨kind, op, not, val, qual, name, kids, sub⟩ := e
  rw [Expr.row_mk, lvE, Expr.kind, Expr.op]
  refine cl_of_d follows_mixed false Tryz.func119 rfl (by kernel_rfl) ?_
  simp only [Tryz.f119, tt, seval]
  all_goals repeat' first | (refine And.intro (fun h => ?_) (fun h => ?_) <;> try simp only [tt, seval]) | (intro _; try simp only [tt, seval])
  all_goals first | contradiction | exact ⟨_, _, viE (by unfold lv; (repeat' split) <;> omega), end0 rfl⟩ | skip
  have h4 : kind = 4 := by assumption
  refine call0 (l1In_d op 1 14) ?_ ?_ ?_
  · decide
  · simp only [tt, seval]
  rintro r rfl
  simp only [tt, seval]
  refine And.intro (fun hc => ?_) (fun hc => ?_)
  · have hc : 1 ≤ op ∧ op ≤ 14 := by simpa only [decide_eq_true_eq] using hc
    have hlt : op.toNat < lvT.length := by show _ < 15; omega
    try simp only [tt, seval]
    refine ⟨by omega, by omega, ?_⟩
    rw [lvT_row, drop_row irow_len (List.getElem?_eq_getElem hlt)]
    simp only [tt, seval, irow_tk, irow]
    exact ⟨_, _, viE (by rw [lv, if_pos h4]; exact (lvT_get ⟨op.toNat, hlt⟩ (by show 1 ≤ op.toNat; omega)).trans (congrArg bl (Int.toNat_of_nonneg (show 0 ≤ op by omega)))), end0 rfl⟩
  · exact ⟨_, _, viE (by rw [lv, if_pos h4]; unfold bl; have : ¬ (1 ≤ op ∧ op ≤ 14) := by simpa only [decide_eq_false_iff_not, decide_eq_true_eq] using hc
                         (repeat' split) <;> omega), end0 rfl⟩
theorem Needs_d (kind op : Int) (not : Bool) (val : Val) (qual name : ByteArray) (kids : List Expr) (sub : List Query) (k : Nat) (hk : k < kids.length) : Cl Tryz.prog 189 [.ag (csOf (Expr.mk kind op not val qual name kids sub).row), vi k] [] fun r _ => r = vi (nd kind op k) := by
  rw [Expr.row_mk]
  refine cl_of_d follows_mixed false Tryz.func189 rfl (by kernel_rfl) ?_
  simp only [Tryz.f189, tt, seval]
  refine call0 (LevelOf_d (Expr.mk kind op not val qual name kids sub)) ?_ ?_ ?_
  · decide
  · simp only [tt, seval, Expr.row_mk, lvE, Expr.kind, Expr.op]
  rintro r rfl
  simp only [tt, seval, Expr.row_mk, lvE, Expr.kind, Expr.op]
  have hb := lv_bounds kind op
  refine fun hlen => ?_
  rw [wrap_id (n := (kids.length : Int) - 1) (by omega) (by omega)]
  refine call0 (l1In_d k 0 (kids.length - 1)) ?_ ?_ ?_
  · decide
  · simp only [tt, seval, Expr.row_mk]
  rintro r rfl
  simp only [tt, seval, Expr.row_mk]
  simp only [tt, seval, decide_eq_true (show (0 : Int) ≤ k ∧ (k : Int) ≤ (kids.length : Int) - 1 by omega)]
  by_cases l0 : lv kind op = 0
  · simp only [tt, seval, decide_eq_true l0]
    exact ⟨_, _, viE (by rw [nd, if_pos (Or.inl l0)]), end0 rfl⟩
  simp only [tt, seval, decide_eq_false l0]
  refine And.intro (fun l9 => ?_) (fun l9 => ?_)
  · exact ⟨_, _, viE (by rw [nd, if_pos (Or.inr l9)]), end0 rfl⟩
  try simp only [tt, seval]
  have e : nd kind op k = if kind = 4 then (if lv kind op = 4 then 5 else if k = 0 then lv kind op else lv kind op + 1) else if kind = 3 then lv kind op else if kind = 7 ∧ 0 < k then 1 else 5 := by rw [nd, if_neg (by omega)]
  rw [e, wrap_id (n := lv kind op + 1) (by omega) (by omega)]
  all_goals repeat' first | (refine And.intro (fun h => ?_) (fun h => ?_) <;> try simp only [tt, seval]) | (intro _; try simp only [tt, seval])
  all_goals first | contradiction | exact ⟨_, _, viE (by (repeat' split) <;> omega), end0 rfl⟩
theorem iNeeds_d (kind op : Int) (not : Bool) (val : Val) (qual name : ByteArray) (kids : List Expr) (sub : List Query) (k : Nat) (hk : k < kids.length) : Cl Tryz.prog 197 [.ag (csOf (Expr.mk kind op not val qual name kids sub).row), vi k] [] fun r _ => r = vi (nd kind op k) := by
  rw [Expr.row_mk]
  refine cl_of_d follows_mixed false Tryz.func197 rfl (by kernel_rfl) ?_
  simp only [Tryz.f197, tt, seval]
  refine call0 (iLevelOf_d (Expr.mk kind op not val qual name kids sub)) ?_ ?_ ?_
  · decide
  · simp only [tt, seval, Expr.row_mk, lvE, Expr.kind, Expr.op]
  rintro r rfl
  simp only [tt, seval, Expr.row_mk, lvE, Expr.kind, Expr.op]
  have hb := lv_bounds kind op
  simp only [tt, seval, decide_eq_false (show ¬ (k : Int) < 0 by omega)]
  refine fun hlen => ?_
  simp only [tt, seval, decide_eq_false (show ¬ (kids.length : Int) ≤ k by omega)]
  by_cases l0 : lv kind op = 0
  · simp only [tt, seval, decide_eq_true l0]
    exact ⟨_, _, viE (by rw [nd, if_pos (Or.inl l0)]), end0 rfl⟩
  simp only [tt, seval, decide_eq_false l0]
  refine And.intro (fun l9 => ?_) (fun l9 => ?_)
  · exact ⟨_, _, viE (by rw [nd, if_pos (Or.inr l9)]), end0 rfl⟩
  try simp only [tt, seval]
  have e : nd kind op k = if kind = 4 then (if lv kind op = 4 then 5 else if k = 0 then lv kind op else lv kind op + 1) else if kind = 3 then lv kind op else if kind = 7 ∧ 0 < k then 1 else 5 := by rw [nd, if_neg (by omega)]
  rw [e]
  all_goals repeat' first | (refine And.intro (fun h => ?_) (fun h => ?_) <;> try simp only [tt, seval]) | (intro _; try simp only [tt, seval])
  all_goals try rw [wrap_id (n := lv kind op + (if (1 : Int) < k then 1 else (k : Int))) (by split <;> omega) (by split <;> omega)]
  all_goals first | contradiction | exact ⟨_, _, viE (by (repeat' split) <;> omega), end0 rfl⟩
theorem Wrapped_d (kind op : Int) (not : Bool) (val : Val) (qual name : ByteArray) (kids : List Expr) (sub : List Query) (k : Nat) (hk : k < kids.length) : Cl Tryz.prog 118 [.ag (csOf (Expr.mk kind op not val qual name kids sub).row), vi k] [] fun r _ => r = vb (wrapB kind op kids k) := by
  rw [Expr.row_mk]
  refine cl_of_d follows_mixed false Tryz.func118 rfl (by kernel_rfl) ?_
  simp only [Tryz.f118, tt, seval]
  refine dDrawn.intro [] (pln [0, 2, 4, 6, 8, 11, 12, 14, 16, 18, 20, 22, 26, 28, 25, 31, 32, 34, 36]) (by kernel_rfl) ?_
  simp only [tt, seval]
  refine fun hlen => ?_
  rw [wrap_id (n := (kids.length : Int) - 1) (by omega) (by omega)]
  refine call0 (l1In_d k 0 (kids.length - 1)) ?_ ?_ ?_
  · decide
  · simp only [tt, seval, Expr.row_mk]
  rintro r rfl
  simp only [tt, seval, Expr.row_mk]
  simp only [tt, seval, decide_eq_true (show (0 : Int) ≤ k ∧ (k : Int) ≤ (kids.length : Int) - 1 by omega)]
  refine ⟨by omega, by omega, _, drop_row Expr.row_len (List.getElem?_eq_getElem hk), Expr.ne _ _, ?_⟩
  simp only [tt, seval, Expr.tk, Expr.row_len]
  refine call0 (LevelOf_d kids[k]) ?_ ?_ ?_
  · decide
  · simp only [tt, seval]
  rintro r rfl
  simp only [tt, seval]
  refine call0 (Needs_d kind op not val qual name kids sub k hk) ?_ ?_ ?_
  · decide
  · simp only [tt, seval, Expr.row_mk]
  rintro r rfl
  simp only [tt, seval, Expr.row_mk]
  exact ⟨_, _, vbE (by rw [wrapB, List.getD_eq_getElem?_getD, List.getElem?_eq_getElem hk]; rfl), end0 rfl⟩
theorem iWrapped_d (kind op : Int) (not : Bool) (val : Val) (qual name : ByteArray) (kids : List Expr) (sub : List Query) (k : Nat) (hk : k < kids.length) : Cl Tryz.prog 134 [.ag (csOf (Expr.mk kind op not val qual name kids sub).row), vi k] [] fun r _ => r = vb (wrapB kind op kids k) := by
  rw [Expr.row_mk]
  refine cl_of_d follows_mixed false Tryz.func134 rfl (by kernel_rfl) ?_
  simp only [Tryz.f134, tt, seval]
  refine dDrawn.intro [] (pln [0, 2, 4, 6, 8, 10, 12, 14, 16, 18, 20, 22, 24, 26, 28, 32, 34, 31, 37, 38, 40, 42]) (by kernel_rfl) ?_
  simp only [tt, seval]
  simp only [tt, seval, decide_eq_true (show (0 : Int) ≤ k by omega)]
  refine fun hlen => ?_
  simp only [tt, seval, decide_eq_true (show (k : Int) < kids.length by omega)]
  refine ⟨by omega, by omega, _, drop_row Expr.row_len (List.getElem?_eq_getElem hk), Expr.ne _ _, ?_⟩
  simp only [tt, seval, Expr.tk, Expr.row_len]
  refine call0 (iLevelOf_d kids[k]) ?_ ?_ ?_
  · decide
  · simp only [tt, seval]
  rintro r rfl
  simp only [tt, seval]
  refine call0 (iNeeds_d kind op not val qual name kids sub k hk) ?_ ?_ ?_
  · decide
  · simp only [tt, seval, Expr.row_mk]
  rintro r rfl
  simp only [tt, seval, Expr.row_mk]
  exact ⟨_, _, vbE (by rw [wrapB, List.getD_eq_getElem?_getD, List.getElem?_eq_getElem hk]; rfl), end0 rfl⟩
def Item.star : Item → Bool | .mk s _ _ _ => s
def Item.e : Item → Expr | .mk _ _ e _ => e
def Source.on : Source → List Expr | .mk _ _ o => o
def SortKey.e : SortKey → Expr | .mk e _ => e
def exprsI (l : List Item) : List Expr := (l.filter fun x => !x.star).map Item.e
def exprsQ : Query → List Expr | .mk _ items from_ where_ order _ => exprsI items ++ from_.flatMap Source.on ++ where_ ++ order.map SortKey.e
theorem exprsI_step {l : List Item} {i : Nat} (h : i < l.length) : exprsI (l.take (i + 1)) = exprsI (l.take i) ++ if l[i].star = true then [] else [l[i].e] := by
  unfold exprsI
  rw [List.take_succ_eq_append_getElem h, List.filter_append, List.map_append]
  congr 1
  simp only [List.filter_cons, List.filter_nil]
  cases l[i].star <;> rfl
theorem on_step {l : List Source} {i : Nat} (h : i < l.length) : (l.take (i + 1)).flatMap Source.on = (l.take i).flatMap Source.on ++ l[i].on := by
  rw [List.take_succ_eq_append_getElem h, List.flatMap_append]; simp
theorem key_step {l : List SortKey} {i : Nat} (h : i < l.length) : (l.take (i + 1)).map SortKey.e = (l.take i).map SortKey.e ++ [l[i].e] := by
  rw [List.take_succ_eq_append_getElem h, List.map_append]; rfl
theorem exprsI_len (l : List Item) : (exprsI l).length ≤ l.length := by
  unfold exprsI
  rw [List.length_map]; exact List.length_filter_le _ _
theorem on_len : ∀ l : List Source, (l.flatMap Source.on).length + l.length ≤ szSources l
  | [] => by simp [szSources]
  | .mk t a o :: r => by
    have := on_len r
    rw [szSources, szSource_mk, List.flatMap_cons, List.length_append, List.length_cons, szExprs_eq]
    show o.length + _ + _ ≤ _
    omega
theorem take_on_len (l : List Source) (i : Nat) : ((l.take i).flatMap Source.on).length ≤ (l.flatMap Source.on).length := by
  conv => rhs; rw [← List.take_append_drop i l]
  rw [List.flatMap_append, List.length_append]; omega
theorem mem_sz {α : Type} (g : α → Nat) {l : List α} {x : α} (h : x ∈ l) : g x ≤ (l.map g).sum := by
  induction l with
  | nil => cases h
  | cons y r ih =>
    rw [List.map_cons, List.sum_cons]
    rcases List.mem_cons.1 h with rfl | h
    · omega
    · have := ih h; omega
theorem exprsQ_sz {q : Query} {x : Expr} (h : x ∈ exprsQ q) : szExpr x ≤ szQuery q := by
  obtain ⟨d, it, fr, wh, or, li⟩ := q
  rw [szQuery_mk, szItems_eq, szSources_eq, szExprs_eq, szSortKeys_eq]
  simp only [exprsQ, List.mem_append] at h
  rcases h with ((h | h) | h) | h
  · simp only [exprsI, List.mem_map, List.mem_filter] at h
    obtain ⟨⟨s, q, e, a⟩, ⟨hm, _⟩, rfl⟩ := h
    have := mem_sz szItem hm
    rw [szItem_mk] at this
    show szExpr e ≤ _
    omega
  · simp only [List.mem_flatMap] at h
    obtain ⟨⟨t, a, o⟩, hm, hx⟩ := h
    have := mem_sz szSource hm
    have h2 := mem_sz szExpr (show x ∈ o from hx)
    rw [szSource_mk, szExprs_eq] at this
    omega
  · have := mem_sz szExpr h; omega
  · simp only [List.mem_map] at h
    obtain ⟨⟨e, d⟩, hm, rfl⟩ := h
    have := mem_sz szSortKey hm
    rw [szSortKey_mk] at this
    show szExpr e ≤ _
    omega
theorem exprsQ_lt {q : Query} {x : Expr} (h : x ∈ exprsQ q) : SizeOf.sizeOf x < SizeOf.sizeOf q := by
  obtain ⟨d, it, fr, wh, or, li⟩ := q
  rw [Query.mk.sizeOf_spec]
  simp only [exprsQ, List.mem_append] at h
  rcases h with ((h | h) | h) | h
  · simp only [exprsI, List.mem_map, List.mem_filter] at h
    obtain ⟨⟨s, q, e, a⟩, ⟨hm, _⟩, rfl⟩ := h
    have := List.sizeOf_lt_of_mem hm
    rw [Item.mk.sizeOf_spec] at this
    show SizeOf.sizeOf e < _
    omega
  · simp only [List.mem_flatMap] at h
    obtain ⟨⟨t, a, o⟩, hm, hx⟩ := h
    have := List.sizeOf_lt_of_mem hm
    have h2 := List.sizeOf_lt_of_mem (show x ∈ o from hx)
    rw [Source.mk.sizeOf_spec] at this
    omega
  · have := List.sizeOf_lt_of_mem h; omega
  · simp only [List.mem_map] at h
    obtain ⟨⟨e, d⟩, hm, rfl⟩ := h
    have := List.sizeOf_lt_of_mem hm
    rw [SortKey.mk.sizeOf_spec] at this
    show SizeOf.sizeOf e < _
    omega
theorem exprsQ_len (q : Query) : (exprsQ q).length ≤ szQuery q := by
  obtain ⟨d, it, fr, wh, or, li⟩ := q
  have h1 := exprsI_len it
  have h2 := on_len fr
  rw [szQuery_mk, szItems_eq, szExprs_eq, szSortKeys_eq]
  simp only [exprsQ, List.length_append, List.length_map]
  omega
def below (x e : Expr) : Prop := x ∈ e.kids ∨ ∃ q ∈ e.sub, x ∈ exprsQ q
theorem below_lt {x e : Expr} (h : below x e) : SizeOf.sizeOf x < SizeOf.sizeOf e := by
  obtain ⟨k, o, n, v, q, m, ks, ss⟩ := e
  rw [Expr.mk.sizeOf_spec]
  rcases h with h | ⟨y, hy, h⟩
  · have := List.sizeOf_lt_of_mem (show x ∈ ks from h); omega
  · have := List.sizeOf_lt_of_mem (show y ∈ ss from hy)
    have := exprsQ_lt h
    omega
theorem below_sz {x e : Expr} (h : below x e) : szExpr x ≤ szExpr e := by
  obtain ⟨k, o, n, v, q, m, ks, ss⟩ := e
  rw [szExpr_mk, szExprs_eq, szQuerys_eq]
  rcases h with h | ⟨y, hy, h⟩
  · have := mem_sz szExpr (show x ∈ ks from h); omega
  · have := mem_sz szQuery (show y ∈ ss from hy)
    have := exprsQ_sz h
    omega
theorem sub_sz {q : Query} {e : Expr} (h : q ∈ e.sub) : szQuery q ≤ szExpr e := by
  obtain ⟨k, o, n, v, q', m, ks, ss⟩ := e
  rw [szExpr_mk, szExprs_eq, szQuerys_eq]
  have := mem_sz szQuery (show q ∈ ss from h); omega
noncomputable def foldE {α : Type} [Inhabited α] (F : (Expr → α) → Expr → α) (e : Expr) : α := F (fun x => if h : SizeOf.sizeOf x < SizeOf.sizeOf e then foldE F x else default) e
termination_by SizeOf.sizeOf e
theorem foldE_ind {α : Type} [Inhabited α] {F : (Expr → α) → Expr → α} {P : Expr → α → Prop} (h : ∀ e g, (∀ x, below x e → P x (g x)) → P e (F g e)) (e : Expr) : P e (foldE F e) := by
  suffices H : ∀ n : Nat, ∀ e : Expr, SizeOf.sizeOf e < n → P e (foldE F e) from H _ e (Nat.lt_succ_self _)
  intro n
  induction n with
  | zero => exact fun _ h => absurd h (Nat.not_lt_zero _)
  | succ n ih =>
    intro e he
    rw [foldE]
    refine h e _ fun x hx => ?_
    have := below_lt hx
    simp only [dif_pos this]
    exact ih x (by omega)
end Go.Proofs.YtfdcibofiibppaaGreatDoor
