/-
  Parsing texts of expressions.
  Conditions: none.
-/
import Derived.Test.YtfddkbckoapmfaaGreatDoorVTD2
import Derived.Test.YtfddkbckoapmfaaGreatDoorVTE
import Derived.Test.YtfddkbckoapmfaaGreatDoorVTG
set_option linter.unusedVariables false
set_option linter.unusedSimpArgs false
set_option linter.unusedSectionVars false
set_option maxRecDepth 8000
namespace Go.Proofs.YtfddkbckoapmfaaGreatDoor
open Go Go.Dv
open Go.Vc (D shrI xorI andI and255)
theorem lex_toks {s : ByteArray} {L : List Tok} (h : lexR s = .inl L) : L.length ≤ 2000 ∧ ∀ t ∈ L, okTok t = true := by
 unfold lexR at h
 split at h
 ·cases h
 ·obtain ⟨rr, hrr⟩ := lxGo_df (B := s.data.toList) (s.data.toList.length + 1) 0 [] (by omega) (by omega)
  rw [hrr] at h
  have h : rr = .inl L := h
  subst h
  have := lxGo_toks (by omega) hrr (fun t ht => by cases ht)
  rw [size_toList] at this
  simp only [List.length_nil] at this
  exact ⟨by omega, this.1⟩
def fltA (L : List Tok) (n : Nat) (i : Int) : Int := if i < L.length then (L.getD i.toNat ⟨0, z0, 0⟩).at_ else n
def flt (L : List Tok) (n : Nat) (i : Int) (ok : Bool) : Int × Int := if 0 ≤ i then (2, fltA L n i) else if ok = true then (0, 0) else (3, 0)
def parseR {α : Type} (z : α) (take : List Tok → α × Int) (ok : α → Bool) (s : ByteArray) : α × (Int × Int) := match lexR s with
 | .inr p => (z, (1, p))
 | .inl L => (if 0 ≤ (take L).2 then z else if ok (take L).1 = true then (take L).1 else z, flt L s.size (take L).2 (ok (take L).1))
def fcs (f : Int × Int) : List C := [.v (.int .i64 f.1), .v (.int .i64 f.2)]
noncomputable def parseExpr : ByteArray → Expr × (Int × Int) := parseR zExpr takeE okE
end Go.Proofs.YtfddkbckoapmfaaGreatDoor
set_option maxRecDepth 8000
namespace Go.Proofs.YtfddkbckoapmfaaGreatDoor
open Go Go.Dv Go.Cv
open Go.Vc (D shrI xorI andI and255)
theorem takeM_at {L : List Tok} {α : Type} (z x : α) (s : PS) (ha : s.a ≤ L.length) : ((takeM L z (some (x, s))).2 = -1 ∨ 0 ≤ (takeM L z (some (x, s))).2) ∧ (takeM L z (some (x, s))).2 ≤ L.length := by
 unfold takeM
 simp only
 split
 ·rename_i h
  refine ⟨.inr h, ?_⟩
  show endM L s ≤ _
  unfold endM
  split <;> omega
 ·exact ⟨.inl rfl, by show (-1 : Int) ≤ _; omega⟩
theorem takeE_at {L : List Tok} : ((takeE L).2 = -1 ∨ 0 ≤ (takeE L).2) ∧ (takeE L).2 ≤ L.length := by
 obtain ⟨x, s, h⟩ := pExpr_df (L := L) 1 (by omega) (by omega) s0
 have ha := (pExpr_ok (L := L) 1 _ _ _ h).2.1 (Nat.zero_le _)
 unfold takeE
 rw [h]; exact takeM_at _ _ _ ha
set_option maxHeartbeats 2000000 in
theorem ParseExpr_c (L : List Tok) (hL : L.length ≤ 1048576) (hT : ∀ t ∈ L, t.text.size ≤ 1048576) (h40 : ∀ t ∈ L, t.text.size ≤ 40) (hL2 : L.length ≤ 2000) : Cl Tryz.prog 21 [.c (.sl L.length (L.flatMap Tok.row) none), .c (.p 9000 0)] [[.v (.int .i64 0), .v (.int .i64 0), .v (.bool false), .v (.int .i64 0), .v (.int .i64 0), .v (.string ByteArray.empty), .v (.string ByteArray.empty), .v (.string ByteArray.empty), .v (.slice none 0 0), .v (.slice none 0 0)]] fun r os => r = .tu [([.v (.int .i64 (takeE L).2)], true), ([.v (.bool (okE (takeE L).1))], true)] ∧ ∃ Fk Fs, os = [told (takeE L).1.row [Fk, Fs]] := by
 have hsz := takeE_sz h40 hL2
 have ct := iTakeExpr_d L hL hT
 generalize (takeE L).2 = i at *
 generalize (takeE L).1 = x at *
 have ck := iExprOk_d x (by omega)
 obtain ⟨k1, p1, n1, v1, q1, m1, ks1, ss1⟩ := x
 simp only [Stmt.row_mk, Query.row_mk, zQuery, ERow.row_mk, rW, Val.row, lc, told, Val.row, lc] at ct ck ⊢
 refine cl_of_d follows_mixed true Tryz.func21 rfl (by kernel_rfl) ?_
 simp only [Tryz.f21, tt, seval]
 refine call0 (ct) ?_ ?_ ?_
 ·decide
 ·simp only [tt, seval, told, Val.row, lc]
 rintro r ⟨Fk, Fs, rfl⟩
 simp only [tt, seval, told, Val.row, lc]
 refine cZ (ck) (by decide) ?_ ?_ <;> simp only [tt, seval, told, Val.row, lc]
 refine ⟨.tu [([.v (.int .i64 i)], true), ([.v (.bool (okE (Expr.mk k1 p1 n1 v1 q1 m1 ks1 ss1)))], true)], [told (Expr.mk k1 p1 n1 v1 q1 m1 ks1 ss1).row [Fk, Fs]], ⟨rfl, Fk, Fs, by first | rfl | simp only [Stmt.row_mk, Query.row_mk, zStmt, zQuery, ERow.row_mk, srow, rW, told, Val.row, lc]⟩, endOk ?_⟩
 simp only [tt, seval, Stmt.row_mk, Query.row_mk, zStmt, zQuery, ERow.row_mk, srow, rW, told, Val.row, lc]
 first | done | ((try refine ⟨by omega, ?_⟩); exact pool_ok fun x => by (try simp only [fb]); omega)
theorem parsedExpr_r (s : ByteArray) (p : Nat) (hlx : lexR s = .inr p) : Cl Tryz.prog 20 [vs s, .c (.fn 21 [] [9000])] [[.v (.int .i64 0), .v (.int .i64 0), .v (.bool false), .v (.int .i64 0), .v (.int .i64 0), .v (.string ByteArray.empty), .v (.string ByteArray.empty), .v (.string ByteArray.empty), .v (.slice none 0 0), .v (.slice none 0 0)]] fun r os => r = .ag (fcs (1, (p : Int))) ∧ os = [[.v (.int .i64 0), .v (.int .i64 0), .v (.bool false), .v (.int .i64 0), .v (.int .i64 0), .v (.string ByteArray.empty), .v (.string ByteArray.empty), .v (.string ByteArray.empty), .v (.slice none 0 0), .v (.slice none 0 0)]] := by
 have cl := iLex_d s
 rw [hlx] at cl
 have h0 : (0 ≤ (p : Int)) = True := eq_true (by omega)
 refine cl_of_d follows_mixed true Tryz.func20 rfl (by kernel_rfl) ?_
 simp only [Tryz.f20, tt, seval]
 refine cZ (cl) (by decide) ?_ ?_ <;> simp only [tt, seval, lexV]
 try simp only [tt, seval, h0, true_implies, not_true_eq_false, false_implies, and_true]
 refine ⟨.ag (fcs (1, (p : Int))), [[.v (.int .i64 0), .v (.int .i64 0), .v (.bool false), .v (.int .i64 0), .v (.int .i64 0), .v (.string ByteArray.empty), .v (.string ByteArray.empty), .v (.string ByteArray.empty), .v (.slice none 0 0), .v (.slice none 0 0)]], ⟨rfl, rfl⟩, endOk ?_⟩
 simp only [tt, seval, fcs]
 first | done | exact Sb.refl _ | ((try refine ⟨by omega, ?_⟩); exact pool_ok fun x => by (try simp only [fb]); omega)
set_option maxHeartbeats 4000000 in
theorem parsedExpr_l (s : ByteArray) (L : List Tok) (hlx : lexR s = .inl L) : Cl Tryz.prog 20 [vs s, .c (.fn 21 [] [9000])] [[.v (.int .i64 0), .v (.int .i64 0), .v (.bool false), .v (.int .i64 0), .v (.int .i64 0), .v (.string ByteArray.empty), .v (.string ByteArray.empty), .v (.string ByteArray.empty), .v (.slice none 0 0), .v (.slice none 0 0)]] fun r os => r = .ag (fcs (flt L s.size (takeE L).2 (okE (takeE L).1))) ∧ ∃ Fk Fs, os = [told (takeE L).1.row [Fk, Fs]] := by
 have cl := iLex_d s
 have hs := lexR_small hlx
 obtain ⟨hL2, hok⟩ := lex_toks hlx
 have hL : L.length ≤ 1048576 := by omega
 have h40 : ∀ t ∈ L, t.text.size ≤ 40 := fun t ht => tok40 (hok t ht)
 have hT : ∀ t ∈ L, t.text.size ≤ 1048576 := fun t ht => Nat.le_trans (h40 t ht) (by omega)
 have ct := ParseExpr_c L hL hT h40 hL2
 have hb : ((takeE L).2 = -1 ∨ 0 ≤ (takeE L).2) ∧ (takeE L).2 ≤ L.length := takeE_at
 rw [hlx] at cl
 generalize (takeE L).2 = i at *
 generalize (takeE L).1 = x at *
 obtain ⟨k1, p1, n1, v1, q1, m1, ks1, ss1⟩ := x
 simp only [Stmt.row_mk, Query.row_mk, zQuery, ERow.row_mk, rW, Val.row, lc, told, Val.row, lc] at ct ⊢
 refine cl_of_d follows_mixed true Tryz.func20 rfl (by kernel_rfl) ?_
 simp only [Tryz.f20, tt, seval]
 refine cZ (cl) (by decide) ?_ ?_ <;> simp only [tt, seval, lexV]
 try simp only [tt, seval, not_false_eq_true, true_implies, false_implies, true_and]
 refine CallQ.intro (ct) ?_ ?_ ?_
 ·decide
 ·simp only [tt, seval, told, Val.row, lc]
 rintro r os ⟨rfl, Fk, Fs, rfl⟩ hos
 simp only [tt, seval, told, Val.row, lc]
 refine fun _ => ?_
 by_cases hi : i = L.length
 ·have h0 : (i = (L.length : Int)) = True := eq_true hi
  have ef : flt L s.size i (okE (Expr.mk k1 p1 n1 v1 q1 m1 ks1 ss1)) = (2, (s.size : Int)) := by
   unfold flt fltA
   rw [if_pos (by omega), if_neg (by omega)]
  rw [ef]
  simp only [tt, seval, h0, true_implies, not_true_eq_false, false_implies, and_true]
  refine fun _ => ?_
  refine ⟨.ag (fcs (2, (s.size : Int))), [told (Expr.mk k1 p1 n1 v1 q1 m1 ks1 ss1).row [Fk, Fs]], ⟨rfl, Fk, Fs, by first | rfl | simp only [Stmt.row_mk, Query.row_mk, zStmt, zQuery, ERow.row_mk, srow, rW, told, Val.row, lc]⟩, endOk ?_⟩
  simp only [tt, seval, fcs, Stmt.row_mk, Query.row_mk, zStmt, zQuery, ERow.row_mk, srow, rW, told, Val.row, lc]
  first | done | ((try refine ⟨by omega, ?_⟩); exact pool_ok fun x => by (try simp only [fb]); omega)
 ·have h0 : (i = (L.length : Int)) = False := eq_false hi
  simp only [tt, seval, h0, not_false_eq_true, true_implies, false_implies, true_and]
  by_cases h1 : 0 ≤ i
  ·have h1' : (0 ≤ i) = True := eq_true h1
   obtain ⟨j, rfl⟩ : ∃ j : Nat, i = j := ⟨i.toNat, by omega⟩
   have hl : j < L.length := by omega
   have hx : L[j]? = some L[j] := List.getElem?_eq_getElem hl
   have ef : flt L s.size (j : Int) (okE (Expr.mk k1 p1 n1 v1 q1 m1 ks1 ss1)) = (2, (L[j]).at_) := by
    unfold flt fltA
    rw [if_pos h1, if_pos (by omega), Int.toNat_natCast, List.getD_eq_getElem?_getD, hx]; rfl
   have i0 : ((0 : Int) ≤ (j : Int)) = True := eq_true (by omega)
   have iL : ((j : Int) < (L.length : Int)) = True := eq_true (by omega)
   have iT : (j < L.length) = True := eq_true hl
   rw [ef]
   generalize L[j] = tk at *
   simp only [tt, seval, h1', idxAt hx Tok.row_len, i0, iL, iT, Tok.row, true_implies, not_true_eq_false, false_implies, and_true]
   refine ⟨.ag (fcs (2, tk.at_)), [told (Expr.mk k1 p1 n1 v1 q1 m1 ks1 ss1).row [Fk, Fs]], ⟨rfl, Fk, Fs, by first | rfl | simp only [Stmt.row_mk, Query.row_mk, zStmt, zQuery, ERow.row_mk, srow, rW, told, Val.row, lc]⟩, endOk ?_⟩
   simp only [tt, seval, fcs, Stmt.row_mk, Query.row_mk, zStmt, zQuery, ERow.row_mk, srow, rW, told, Val.row, lc]
   first | done | ((try refine ⟨by omega, ?_⟩); exact pool_ok fun x => by (try simp only [fb]); omega)
  ·have h1' : (0 ≤ i) = False := eq_false h1
   simp only [tt, seval, h1', not_false_eq_true, true_implies, false_implies, true_and]
   cases ho : okE (Expr.mk k1 p1 n1 v1 q1 m1 ks1 ss1) with
   | true =>
    have ef : flt L s.size i true = (0, 0) := by unfold flt; rw [if_neg h1, if_pos rfl]
    rw [ef]
    simp only [tt, seval, ho, Bool.not_true, Bool.false_eq_true]
    refine ⟨.ag (fcs (0, 0)), [told (Expr.mk k1 p1 n1 v1 q1 m1 ks1 ss1).row [Fk, Fs]], ⟨rfl, Fk, Fs, by first | rfl | simp only [Stmt.row_mk, Query.row_mk, zStmt, zQuery, ERow.row_mk, srow, rW, told, Val.row, lc]⟩, endOk ?_⟩
    simp only [tt, seval, fcs, Stmt.row_mk, Query.row_mk, zStmt, zQuery, ERow.row_mk, srow, rW, told, Val.row, lc]
    first | done | ((try refine ⟨by omega, ?_⟩); exact pool_ok fun x => by (try simp only [fb]); omega)
   | false =>
    have ef : flt L s.size i false = (3, 0) := by unfold flt; rw [if_neg h1, if_neg (by simp)]
    rw [ef]
    simp only [tt, seval, ho, Bool.not_false]
    refine ⟨.ag (fcs (3, 0)), [told (Expr.mk k1 p1 n1 v1 q1 m1 ks1 ss1).row [Fk, Fs]], ⟨rfl, Fk, Fs, by first | rfl | simp only [Stmt.row_mk, Query.row_mk, zStmt, zQuery, ERow.row_mk, srow, rW, told, Val.row, lc]⟩, endOk ?_⟩
    simp only [tt, seval, fcs, Stmt.row_mk, Query.row_mk, zStmt, zQuery, ERow.row_mk, srow, rW, told, Val.row, lc]
    first | done | ((try refine ⟨by omega, ?_⟩); exact pool_ok fun x => by (try simp only [fb]); omega)
set_option maxHeartbeats 4000000 in
theorem iParseExpr_d (s : ByteArray) : Cl Tryz.prog 9 [vs s] [] fun r _ => ∃ Fk Fs, r = .tu [(told (parseExpr s).1.row [Fk, Fs], false), (fcs (parseExpr s).2, false)] := by
 cases hlx : lexR s with
 | inr p =>
  have e : parseExpr s = (zExpr, (1, (p : Int))) := by unfold parseExpr parseR; rw [hlx]
  have cp := parsedExpr_r s p hlx
  rw [e]
  refine cl_of_d follows_mixed true Tryz.func9 rfl (by kernel_rfl) ?_
  simp only [Tryz.f9, tt, seval]
  refine cS (cp) (by decide) ?_ ?_ <;> simp only [tt, seval, fcs]
  refine dDrawn.intro [] (.take 0 (.br 1 (.br 2 (.br 3 .done .nobr) .nobr) (.br 2 (.take 1 (.br 3 .done .nobr)) .nobr))) (by kernel_rfl) ?_
  simp only [tt, seval]
  all_goals
   repeat' with_reducible refine And.intro ?_ ?_
   all_goals
    refine ⟨.tu [(told (zExpr).row [[], []], false), (fcs (1, (p : Int)), false)], [], ⟨[], [], by first | rfl | simp only [fcs, Stmt.row_mk, Query.row_mk, zStmt, zQuery, ERow.row_mk, srow, rW, told, Val.row, lc]⟩, endOk ?_⟩
    simp only [tt, seval, fcs, Stmt.row_mk, Query.row_mk, zStmt, zQuery, ERow.row_mk, srow, rW, told, Val.row, lc]
    first | done | exact Sb.refl _ | ((try refine ⟨by omega, ?_⟩); exact pool_ok fun x => by (try simp only [fb]); omega)
 | inl L =>
  have e : parseExpr s = (if 0 ≤ (takeE L).2 then zExpr else if okE (takeE L).1 = true then (takeE L).1 else zExpr, flt L s.size (takeE L).2 (okE (takeE L).1)) := by unfold parseExpr parseR; rw [hlx]
  have cp := parsedExpr_l s L hlx
  rw [e]
  generalize (takeE L).2 = i at *
  generalize (takeE L).1 = x at *
  obtain ⟨k1, p1, n1, v1, q1, m1, ks1, ss1⟩ := x
  simp only [Expr.row_mk, told, Val.row, lc] at cp
  by_cases hi : 0 ≤ i
  ·have ef : flt L s.size i (okE (Expr.mk k1 p1 n1 v1 q1 m1 ks1 ss1)) = (2, fltA L s.size i) := if_pos hi
   rw [if_pos hi, ef]
   rw [ef] at cp
   refine cl_of_d follows_mixed true Tryz.func9 rfl (by kernel_rfl) ?_
   simp only [Tryz.f9, tt, seval]
   refine CallQ.intro (cp) ?_ ?_ ?_
   ·decide
   ·simp only [tt, seval, fcs, Expr.row_mk, told, Val.row, lc]
   rintro r os ⟨rfl, Fk, Fs, rfl⟩ hos
   simp only [tt, seval, fcs, Expr.row_mk, told, Val.row, lc]
   refine dDrawn.intro [] (.take 0 (.br 1 (.br 2 (.br 3 .done .nobr) .nobr) (.br 2 (.take 1 (.br 3 .done .nobr)) .nobr))) (by kernel_rfl) ?_
   simp only [tt, seval]
   all_goals
    repeat' with_reducible refine And.intro ?_ ?_
    all_goals
     refine ⟨.tu [(told (zExpr).row [[], []], false), (fcs (2, fltA L s.size i), false)], [], ⟨[], [], by first | rfl | simp only [fcs, Stmt.row_mk, Query.row_mk, zStmt, zQuery, ERow.row_mk, srow, rW, told, Val.row, lc]⟩, endOk ?_⟩
     simp only [tt, seval, fcs, Stmt.row_mk, Query.row_mk, zStmt, zQuery, ERow.row_mk, srow, rW, told, Val.row, lc]
     first | done | exact Sb.refl _ | ((try refine ⟨by omega, ?_⟩); exact pool_ok fun x => by (try simp only [fb]); omega)
  ·rw [if_neg hi]
   cases ho : okE (Expr.mk k1 p1 n1 v1 q1 m1 ks1 ss1) with
   | true =>
    have ef : flt L s.size i true = (0, 0) := by unfold flt; rw [if_neg hi, if_pos rfl]
    rw [if_pos rfl, ef]
    rw [ho] at cp
    rw [ef] at cp
    refine cl_of_d follows_mixed true Tryz.func9 rfl (by kernel_rfl) ?_
    simp only [Tryz.f9, tt, seval]
    refine CallQ.intro (cp) ?_ ?_ ?_
    ·decide
    ·simp only [tt, seval, fcs, Expr.row_mk, told, Val.row, lc]
    rintro r os ⟨rfl, Fk, Fs, rfl⟩ hos
    simp only [tt, seval, fcs, Expr.row_mk, told, Val.row, lc]
    refine dDrawn.intro [] (.take 0 (.br 1 (.br 2 (.br 3 .done .nobr) .nobr) (.br 2 (.take 1 (.br 3 .done .nobr)) .nobr))) (by kernel_rfl) ?_
    simp only [tt, seval]
    all_goals
     repeat' with_reducible refine And.intro ?_ ?_
     all_goals
      refine ⟨.tu [(told ((Expr.mk k1 p1 n1 v1 q1 m1 ks1 ss1)).row [Fk, Fs], false), (fcs (0, 0), false)], [], ⟨Fk, Fs, by first | rfl | simp only [fcs, Stmt.row_mk, Query.row_mk, zStmt, zQuery, ERow.row_mk, srow, rW, told, Val.row, lc]⟩, endOk ?_⟩
      simp only [tt, seval, fcs, Stmt.row_mk, Query.row_mk, zStmt, zQuery, ERow.row_mk, srow, rW, told, Val.row, lc]
      first | done | exact Sb.refl _ | ((try refine ⟨by omega, ?_⟩); exact pool_ok fun x => by (try simp only [fb]); omega)
   | false =>
    have ef : flt L s.size i false = (3, 0) := by unfold flt; rw [if_neg hi, if_neg (by simp)]
    rw [if_neg (by simp), ef]
    rw [ho] at cp
    rw [ef] at cp
    refine cl_of_d follows_mixed true Tryz.func9 rfl (by kernel_rfl) ?_
    simp only [Tryz.f9, tt, seval]
    refine CallQ.intro (cp) ?_ ?_ ?_
    ·decide
    ·simp only [tt, seval, fcs, Expr.row_mk, told, Val.row, lc]
    rintro r os ⟨rfl, Fk, Fs, rfl⟩ hos
    simp only [tt, seval, fcs, Expr.row_mk, told, Val.row, lc]
    refine dDrawn.intro [] (.take 0 (.br 1 (.br 2 (.br 3 .done .nobr) .nobr) (.br 2 (.take 1 (.br 3 .done .nobr)) .nobr))) (by kernel_rfl) ?_
    simp only [tt, seval]
    all_goals
     repeat' with_reducible refine And.intro ?_ ?_
     all_goals
      refine ⟨.tu [(told (zExpr).row [[], []], false), (fcs (3, 0), false)], [], ⟨[], [], by first | rfl | simp only [fcs, Stmt.row_mk, Query.row_mk, zStmt, zQuery, ERow.row_mk, srow, rW, told, Val.row, lc]⟩, endOk ?_⟩
      simp only [tt, seval, fcs, Stmt.row_mk, Query.row_mk, zStmt, zQuery, ERow.row_mk, srow, rW, told, Val.row, lc]
      first | done | exact Sb.refl _ | ((try refine ⟨by omega, ?_⟩); exact pool_ok fun x => by (try simp only [fb]); omega)
end Go.Proofs.YtfddkbckoapmfaaGreatDoor
