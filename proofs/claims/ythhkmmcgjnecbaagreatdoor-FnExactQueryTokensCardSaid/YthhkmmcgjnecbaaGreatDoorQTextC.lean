/-
  Tokens and their texts.
  Conditions: none.
-/
import Derived.Test.YthhkmmcgjnecbaaGreatDoorQMarks
set_option linter.unusedVariables false
set_option linter.unusedSimpArgs false
set_option maxRecDepth 8000
namespace Go.Proofs.YthhkmmcgjnecbaaGreatDoor
open Go Go.Dv
open Go.Vc (D shrI xorI andI and255)
structure Tok where
  kind : Int
  text : ByteArray
  at_ : Int
def Tok.row (t : Tok) : List D := [int t.kind, str t.text, int t.at_]
theorem Tok.row_len (t : Tok) : t.row.length = 3 := rfl
theorem Tok.tk (t : Tok) (r : List D) : takeD 3 (t.row ++ r) = some t.row := takeD_row rfl
theorem Tok.ne (t : Tok) (r : List D) : t.row ++ r ≠ [] := fun h => by cases h
def opW : List ByteArray := ⟨#[]⟩ :: [⟨#[79, 82]⟩, ⟨#[65, 78, 68]⟩, ⟨#[61]⟩, ⟨#[60, 62]⟩, ⟨#[60]⟩, ⟨#[60, 61]⟩, ⟨#[62]⟩, ⟨#[62, 61]⟩, ⟨#[124, 124]⟩, ⟨#[43]⟩, ⟨#[45]⟩, ⟨#[42]⟩, ⟨#[47]⟩, ⟨#[37]⟩, ⟨#[78, 79, 84]⟩, ⟨#[45]⟩]
def opT (k : Int) : ByteArray := if 1 ≤ k ∧ k ≤ 16 then opW.getD k.toNat ⟨#[]⟩ else ⟨#[]⟩
def kw (k : Nat) : ByteArray := words.getD k ⟨#[]⟩
end Go.Proofs.YthhkmmcgjnecbaaGreatDoor
set_option maxRecDepth 8000
namespace Go.Proofs.YthhkmmcgjnecbaaGreatDoor
open Go Go.Dv
open Go.Vc (D shrI xorI andI and255)
open Go.RowKit (Below)
theorem KeyText_d (k : Nat) (h1 : 1 ≤ k) (h2 : k ≤ 28) : Cl Tryz.prog 119 [vi k] [] fun r _ => r = vs (kw k) := by
  refine cl_of_d follows_mixed false Tryz.func119 rfl (by kernel_rfl) ?_
  simp only [Tryz.f119, tt, seval]
  refine call0 (l1In_d k 1 28) ?_ ?_ ?_
  · decide
  · simp only [tt, seval]
  rintro r rfl
  simp only [tt, seval]
  simp only [tt, seval, decide_eq_true (show (1 : Int) ≤ k ∧ (k : Int) ≤ 28 by omega)]
  refine call0 (l2Words_d) ?_ ?_ ?_
  · decide
  · simp only [tt, seval]
  rintro r rfl
  simp only [tt, seval]
  have hlt : k < words.length := by show _ < 29; omega
  refine ⟨by omega, by omega, _, drop_row srow_len (List.getElem?_eq_getElem hlt), srow_ne _ _, ?_⟩
  simp only [tt, seval, srow_tk, srow]
  exact ⟨_, _, vsE (by rw [kw, List.getD_eq_getElem?_getD, List.getElem?_eq_getElem hlt]; rfl), end0 rfl⟩
theorem opW_row : ([.lit (.string ⟨#[]⟩), .lit (.string ⟨#[79, 82]⟩), .lit (.string ⟨#[65, 78, 68]⟩), .lit (.string ⟨#[61]⟩), .lit (.string ⟨#[60, 62]⟩), .lit (.string ⟨#[60]⟩), .lit (.string ⟨#[60, 61]⟩), .lit (.string ⟨#[62]⟩), .lit (.string ⟨#[62, 61]⟩), .lit (.string ⟨#[124, 124]⟩), .lit (.string ⟨#[43]⟩), .lit (.string ⟨#[45]⟩), .lit (.string ⟨#[42]⟩), .lit (.string ⟨#[47]⟩), .lit (.string ⟨#[37]⟩), .lit (.string ⟨#[78, 79, 84]⟩), .lit (.string ⟨#[45]⟩)] : List D) = opW.flatMap srow := rfl
theorem opW_tail : ([.lit (.string ⟨#[79, 82]⟩), .lit (.string ⟨#[65, 78, 68]⟩), .lit (.string ⟨#[61]⟩), .lit (.string ⟨#[60, 62]⟩), .lit (.string ⟨#[60]⟩), .lit (.string ⟨#[60, 61]⟩), .lit (.string ⟨#[62]⟩), .lit (.string ⟨#[62, 61]⟩), .lit (.string ⟨#[124, 124]⟩), .lit (.string ⟨#[43]⟩), .lit (.string ⟨#[45]⟩), .lit (.string ⟨#[42]⟩), .lit (.string ⟨#[47]⟩), .lit (.string ⟨#[37]⟩), .lit (.string ⟨#[78, 79, 84]⟩), .lit (.string ⟨#[45]⟩)] : List D) = opW.tail.flatMap srow := rfl
theorem OpText_d (k : Int) : Cl Tryz.prog 162 [vi k] [] fun r _ => r = vs (opT k) := by
  refine cl_of_d follows_mixed false Tryz.func162 rfl (by kernel_rfl) ?_
  simp only [Tryz.f162, tt, seval]
  refine call0 (l1In_d k 1 16) ?_ ?_ ?_
  · decide
  · simp only [tt, seval]
  rintro r rfl
  simp only [tt, seval]
  refine And.intro (fun hc => ?_) (fun hc => ?_)
  · exact ⟨_, _, vsE (by rw [opT, if_neg (by simpa only [Bool.not_eq_true', decide_eq_false_iff_not] using hc)]), end0 rfl⟩
  · have hc : 1 ≤ k ∧ k ≤ 16 := by simpa only [Bool.not_eq_false', decide_eq_true_eq] using hc
    have hlt : k.toNat < opW.length := by show _ < 17; omega
    try simp only [tt, seval]
    refine ⟨by omega, by omega, ?_⟩
    rw [opW_row, drop_row srow_len (List.getElem?_eq_getElem hlt)]
    simp only [tt, seval, srow_tk, srow]
    exact ⟨_, _, vsE (by rw [opT, if_pos hc, List.getD_eq_getElem?_getD, List.getElem?_eq_getElem hlt]; rfl), end0 rfl⟩
theorem iOpText_d (k : Int) : Cl Tryz.prog 167 [vi k] [] fun r _ => r = vs (opT k) := by
  refine cl_of_d follows_mixed false Tryz.func167 rfl (by kernel_rfl) ?_
  simp only [Tryz.f167, tt, seval]
  by_cases h1 : k < 1
  · simp only [tt, seval, decide_eq_true h1]
    exact ⟨_, _, vsE (by rw [opT, if_neg (by omega)]), end0 rfl⟩
  · simp only [tt, seval, decide_eq_false h1]
    refine And.intro (fun h2 => ?_) (fun h2 => ?_)
    · exact ⟨_, _, vsE (by rw [opT, if_neg (by omega)]), end0 rfl⟩
    · have hc : 1 ≤ k ∧ k ≤ 16 := by omega
      have hlt : (k - 1).toNat < opW.tail.length := by show _ < 16; omega
      rw [wrap_id (n := k - 1) (by omega) (by omega)]
      refine ⟨by omega, by omega, ?_⟩
      rw [opW_tail, drop_row srow_len (List.getElem?_eq_getElem hlt)]
      simp only [tt, seval, srow_tk, srow]
      have hlt' : k.toNat < opW.length := by show _ < 17; omega
      refine ⟨_, _, vsE ?_, end0 rfl⟩
      rw [opT, if_pos hc, List.getD_eq_getElem?_getD, List.getElem?_eq_getElem hlt']
      simp only [List.getElem_tail, Option.getD_some, show (k - 1).toNat + 1 = k.toNat by omega]
end Go.Proofs.YthhkmmcgjnecbaaGreatDoor
set_option maxRecDepth 8000
namespace Go.Proofs.YthhkmmcgjnecbaaGreatDoor
open Go Go.Dv
open Go.Vc (D shrI xorI andI and255)
def Expr.kind : Expr → Int | .mk k _ _ _ _ _ _ _ => k
def Expr.op : Expr → Int | .mk _ o _ _ _ _ _ _ => o
def Expr.kids : Expr → List Expr | .mk _ _ _ _ _ _ k _ => k
def Expr.sub : Expr → List Query | .mk _ _ _ _ _ _ _ s => s
def bl (op : Int) : Int := if op = 1 then 1 else if op = 2 then 2 else if 3 ≤ op ∧ op ≤ 8 then 4 else if op = 9 then 5 else if op = 10 ∨ op = 11 then 6 else if 12 ≤ op ∧ op ≤ 14 then 7 else 0
def lv (k op : Int) : Int := if k = 4 then bl op else if k = 3 then (if op = 15 then 3 else if op = 16 then 8 else 0) else if 5 ≤ k ∧ k ≤ 8 then 4 else if k = 1 ∨ k = 2 ∨ k = 9 then 9 else 0
def lvE (e : Expr) : Int := lv e.kind e.op
theorem lv_bounds (k op : Int) : 0 ≤ lv k op ∧ lv k op ≤ 9 := by unfold lv bl; (repeat' split) <;> omega
def nd (kind op : Int) (k : Nat) : Int := if lv kind op = 0 ∨ lv kind op = 9 then 0 else if kind = 4 then (if lv kind op = 4 then 5 else if k = 0 then lv kind op else lv kind op + 1) else if kind = 3 then lv kind op else if kind = 7 ∧ 0 < k then 1 else 5
def wrapB (kind op : Int) (kids : List Expr) (k : Nat) : Bool := decide (lvE (kids.getD k (.mk 0 0 false ⟨0, 0, ⟨#[]⟩⟩ ⟨#[]⟩ ⟨#[]⟩ [] [])) < nd kind op k)
theorem binLevel_d (op : Int) : Cl Tryz.prog 186 [vi op] [] fun r _ => r = vi (bl op) := by
  refine cl_of_d follows_mixed false Tryz.func186 rfl (by kernel_rfl) ?_
  simp only [Tryz.f186, tt, seval]
  all_goals repeat' first | (refine And.intro (fun h => ?_) (fun h => ?_) <;> try simp only [tt, seval]) | (intro _; try simp only [tt, seval])
  all_goals first | contradiction | exact ⟨_, _, viE (by subst_vars; rfl), end0 rfl⟩ | exact ⟨_, _, viE (by unfold bl; (repeat' split) <;> omega), end0 rfl⟩
theorem iLevelOf_d (e : Expr) : Cl Tryz.prog 169 [.ag (csOf e.row)] [] fun r _ => r = vi (lvE e) := by
  obtain ⟨kind, op, not, val, qual, name, kids, sub⟩ := e
  rw [Expr.row_mk, lvE, Expr.kind, Expr.op]
  refine cl_of_d follows_mixed false Tryz.func169 rfl (by kernel_rfl) ?_
  simp only [Tryz.f169, tt, seval]
  refine And.intro (fun h4 => ?_) (fun h4 => ?_)
  · skip
    refine call0 (binLevel_d op) ?_ ?_ ?_
    · decide
    · simp only [tt, seval]
    rintro r rfl
    simp only [tt, seval]
    exact ⟨_, _, viE (by rw [lv, if_pos h4]), end0 rfl⟩
  try simp only [tt, seval]
  all_goals repeat' first | (refine And.intro (fun h => ?_) (fun h => ?_) <;> try simp only [tt, seval]) | (intro _; try simp only [tt, seval])
  all_goals exact ⟨_, _, viE (by unfold lv; (repeat' split) <;> omega), end0 rfl⟩
def lvT : List Int := [0, 1, 2, 4, 4, 4, 4, 4, 4, 5, 6, 6, 7, 7, 7]
theorem lvT_row : ([.lit (.int .i64 0), .lit (.int .i64 1), .lit (.int .i64 2), .lit (.int .i64 4), .lit (.int .i64 4), .lit (.int .i64 4), .lit (.int .i64 4), .lit (.int .i64 4), .lit (.int .i64 4), .lit (.int .i64 5), .lit (.int .i64 6), .lit (.int .i64 6), .lit (.int .i64 7), .lit (.int .i64 7), .lit (.int .i64 7)] : List D) = lvT.flatMap irow := rfl
theorem irow_len (n : Int) : (irow n).length = 1 := rfl
theorem irow_tk (v : Int) (r : List D) : takeD 1 (irow v ++ r) = some (irow v) := takeD_row rfl
theorem lvT_get : ∀ n : Fin 15, 1 ≤ n.1 → lvT[n.1]'n.2 = bl n.1 := by decide
theorem LevelOf_d (e : Expr) : Cl Tryz.prog 161 [.ag (csOf e.row)] [] fun r _ => r = vi (lvE e) := by
  obtain ⟨kind, op, not, val, qual, name, kids, sub⟩ := e
  rw [Expr.row_mk, lvE, Expr.kind, Expr.op]
  refine cl_of_d follows_mixed false Tryz.func161 rfl (by kernel_rfl) ?_
  simp only [Tryz.f161, tt, seval]
  all_goals repeat' first | (refine And.intro (fun h => ?_) (fun h => ?_) <;> try simp only [tt, seval]) | (intro _; try simp only [tt, seval])
  all_goals first | contradiction | exact ⟨_, _, viE (by unfold lv; (repeat' split) <;> omega), end0 rfl⟩ | skip
  have h4 : kind = 4 := by assumption
  refine call0 (l1In_d op 1 14) ?_ ?_ ?_
  · decide
  · simp only [tt, seval]
  rintro r rfl
  simp only [tt, seval]
  refine And.intro (fun hc => ?_) (fun hc => ?_)
  · have hc : 1 ≤ op ∧ op ≤ 14 := by simpa only [decide_eq_true_eq] using hc
    have hlt : op.toNat < lvT.length := by show _ < 15; omega
    try simp only [tt, seval]
    refine ⟨by omega, by omega, ?_⟩
    rw [lvT_row, drop_row irow_len (List.getElem?_eq_getElem hlt)]
    simp only [tt, seval, irow_tk, irow]
    exact ⟨_, _, viE (by rw [lv, if_pos h4]; exact (lvT_get ⟨op.toNat, hlt⟩ (by show 1 ≤ op.toNat; omega)).trans (congrArg bl (Int.toNat_of_nonneg (show 0 ≤ op by omega)))), end0 rfl⟩
  · exact ⟨_, _, viE (by rw [lv, if_pos h4]; unfold bl; have : ¬ (1 ≤ op ∧ op ≤ 14) := by simpa only [decide_eq_false_iff_not, decide_eq_true_eq] using hc
                         (repeat' split) <;> omega), end0 rfl⟩
theorem Needs_d (kind op : Int) (not : Bool) (val : Val) (qual name : ByteArray) (kids : List Expr) (sub : List Query) (k : Nat) (hk : k < kids.length) : Cl Tryz.prog 179 [.ag (csOf (Expr.mk kind op not val qual name kids sub).row), vi k] [] fun r _ => r = vi (nd kind op k) := by
  rw [Expr.row_mk]
  refine cl_of_d follows_mixed false Tryz.func179 rfl (by kernel_rfl) ?_
  simp only [Tryz.f179, tt, seval]
  refine call0 (LevelOf_d (Expr.mk kind op not val qual name kids sub)) ?_ ?_ ?_
  · decide
  · simp only [tt, seval, Expr.row_mk, lvE, Expr.kind, Expr.op]
  rintro r rfl
  simp only [tt, seval, Expr.row_mk, lvE, Expr.kind, Expr.op]
  have hb := lv_bounds kind op
  refine fun hlen => ?_
  rw [wrap_id (n := (kids.length : Int) - 1) (by omega) (by omega)]
  refine call0 (l1In_d k 0 (kids.length - 1)) ?_ ?_ ?_
  · decide
  · simp only [tt, seval, Expr.row_mk]
  rintro r rfl
  simp only [tt, seval, Expr.row_mk]
  simp only [tt, seval, decide_eq_true (show (0 : Int) ≤ k ∧ (k : Int) ≤ (kids.length : Int) - 1 by omega)]
  by_cases l0 : lv kind op = 0
  · simp only [tt, seval, decide_eq_true l0]
    exact ⟨_, _, viE (by rw [nd, if_pos (Or.inl l0)]), end0 rfl⟩
  simp only [tt, seval, decide_eq_false l0]
  refine And.intro (fun l9 => ?_) (fun l9 => ?_)
  · exact ⟨_, _, viE (by rw [nd, if_pos (Or.inr l9)]), end0 rfl⟩
  try simp only [tt, seval]
  have e : nd kind op k = if kind = 4 then (if lv kind op = 4 then 5 else if k = 0 then lv kind op else lv kind op + 1) else if kind = 3 then lv kind op else if kind = 7 ∧ 0 < k then 1 else 5 := by rw [nd, if_neg (by omega)]
  rw [e, wrap_id (n := lv kind op + 1) (by omega) (by omega)]
  all_goals repeat' first | (refine And.intro (fun h => ?_) (fun h => ?_) <;> try simp only [tt, seval]) | (intro _; try simp only [tt, seval])
  all_goals first | contradiction | exact ⟨_, _, viE (by (repeat' split) <;> omega), end0 rfl⟩
theorem iNeeds_d (kind op : Int) (not : Bool) (val : Val) (qual name : ByteArray) (kids : List Expr) (sub : List Query) (k : Nat) (hk : k < kids.length) : Cl Tryz.prog 185 [.ag (csOf (Expr.mk kind op not val qual name kids sub).row), vi k] [] fun r _ => r = vi (nd kind op k) := by
  rw [Expr.row_mk]
  refine cl_of_d follows_mixed false Tryz.func185 rfl (by kernel_rfl) ?_
  simp only [Tryz.f185, tt, seval]
  refine call0 (iLevelOf_d (Expr.mk kind op not val qual name kids sub)) ?_ ?_ ?_
  · decide
  · simp only [tt, seval, Expr.row_mk, lvE, Expr.kind, Expr.op]
  rintro r rfl
  simp only [tt, seval, Expr.row_mk, lvE, Expr.kind, Expr.op]
  have hb := lv_bounds kind op
  simp only [tt, seval, decide_eq_false (show ¬ (k : Int) < 0 by omega)]
  refine fun hlen => ?_
  simp only [tt, seval, decide_eq_false (show ¬ (kids.length : Int) ≤ k by omega)]
  by_cases l0 : lv kind op = 0
  · simp only [tt, seval, decide_eq_true l0]
    exact ⟨_, _, viE (by rw [nd, if_pos (Or.inl l0)]), end0 rfl⟩
  simp only [tt, seval, decide_eq_false l0]
  refine And.intro (fun l9 => ?_) (fun l9 => ?_)
  · exact ⟨_, _, viE (by rw [nd, if_pos (Or.inr l9)]), end0 rfl⟩
  try simp only [tt, seval]
  have e : nd kind op k = if kind = 4 then (if lv kind op = 4 then 5 else if k = 0 then lv kind op else lv kind op + 1) else if kind = 3 then lv kind op else if kind = 7 ∧ 0 < k then 1 else 5 := by rw [nd, if_neg (by omega)]
  rw [e]
  all_goals repeat' first | (refine And.intro (fun h => ?_) (fun h => ?_) <;> try simp only [tt, seval]) | (intro _; try simp only [tt, seval])
  all_goals try rw [wrap_id (n := lv kind op + (if (1 : Int) < k then 1 else (k : Int))) (by split <;> omega) (by split <;> omega)]
  all_goals first | contradiction | exact ⟨_, _, viE (by (repeat' split) <;> omega), end0 rfl⟩
theorem Wrapped_d (kind op : Int) (not : Bool) (val : Val) (qual name : ByteArray) (kids : List Expr) (sub : List Query) (k : Nat) (hk : k < kids.length) : Cl Tryz.prog 160 [.ag (csOf (Expr.mk kind op not val qual name kids sub).row), vi k] [] fun r _ => r = vb (wrapB kind op kids k) := by
  rw [Expr.row_mk]
  refine cl_of_d follows_mixed false Tryz.func160 rfl (by kernel_rfl) ?_
  simp only [Tryz.f160, tt, seval]
  refine dDrawn.intro [] (pln [0, 2, 4, 6, 8, 11, 12, 14, 16, 18, 20, 22, 26, 28, 25, 31, 32, 34, 36]) (by kernel_rfl) ?_
  simp only [tt, seval]
  refine fun hlen => ?_
  rw [wrap_id (n := (kids.length : Int) - 1) (by omega) (by omega)]
  refine call0 (l1In_d k 0 (kids.length - 1)) ?_ ?_ ?_
  · decide
  · simp only [tt, seval, Expr.row_mk]
  rintro r rfl
  simp only [tt, seval, Expr.row_mk]
  simp only [tt, seval, decide_eq_true (show (0 : Int) ≤ k ∧ (k : Int) ≤ (kids.length : Int) - 1 by omega)]
  refine ⟨by omega, by omega, _, drop_row Expr.row_len (List.getElem?_eq_getElem hk), Expr.ne _ _, ?_⟩
  simp only [tt, seval, Expr.tk, Expr.row_len]
  refine call0 (LevelOf_d kids[k]) ?_ ?_ ?_
  · decide
  · simp only [tt, seval]
  rintro r rfl
  simp only [tt, seval]
  refine call0 (Needs_d kind op not val qual name kids sub k hk) ?_ ?_ ?_
  · decide
  · simp only [tt, seval, Expr.row_mk]
  rintro r rfl
  simp only [tt, seval, Expr.row_mk]
  exact ⟨_, _, vbE (by rw [wrapB, List.getD_eq_getElem?_getD, List.getElem?_eq_getElem hk]; rfl), end0 rfl⟩
theorem iWrapped_d (kind op : Int) (not : Bool) (val : Val) (qual name : ByteArray) (kids : List Expr) (sub : List Query) (k : Nat) (hk : k < kids.length) : Cl Tryz.prog 168 [.ag (csOf (Expr.mk kind op not val qual name kids sub).row), vi k] [] fun r _ => r = vb (wrapB kind op kids k) := by
  rw [Expr.row_mk]
  refine cl_of_d follows_mixed false Tryz.func168 rfl (by kernel_rfl) ?_
  simp only [Tryz.f168, tt, seval]
  refine dDrawn.intro [] (pln [0, 2, 4, 6, 8, 10, 12, 14, 16, 18, 20, 22, 24, 26, 28, 32, 34, 31, 37, 38, 40, 42]) (by kernel_rfl) ?_
  simp only [tt, seval]
  simp only [tt, seval, decide_eq_true (show (0 : Int) ≤ k by omega)]
  refine fun hlen => ?_
  simp only [tt, seval, decide_eq_true (show (k : Int) < kids.length by omega)]
  refine ⟨by omega, by omega, _, drop_row Expr.row_len (List.getElem?_eq_getElem hk), Expr.ne _ _, ?_⟩
  simp only [tt, seval, Expr.tk, Expr.row_len]
  refine call0 (iLevelOf_d kids[k]) ?_ ?_ ?_
  · decide
  · simp only [tt, seval]
  rintro r rfl
  simp only [tt, seval]
  refine call0 (iNeeds_d kind op not val qual name kids sub k hk) ?_ ?_ ?_
  · decide
  · simp only [tt, seval, Expr.row_mk]
  rintro r rfl
  simp only [tt, seval, Expr.row_mk]
  exact ⟨_, _, vbE (by rw [wrapB, List.getD_eq_getElem?_getD, List.getElem?_eq_getElem hk]; rfl), end0 rfl⟩
def Item.star : Item → Bool | .mk s _ _ _ => s
def Item.e : Item → Expr | .mk _ _ e _ => e
def Source.on : Source → List Expr | .mk _ _ o => o
def SortKey.e : SortKey → Expr | .mk e _ => e
def exprsI (l : List Item) : List Expr := (l.filter fun x => !x.star).map Item.e
def exprsQ : Query → List Expr | .mk _ items from_ where_ order _ => exprsI items ++ from_.flatMap Source.on ++ where_ ++ order.map SortKey.e
theorem exprsI_step {l : List Item} {i : Nat} (h : i < l.length) : exprsI (l.take (i + 1)) = exprsI (l.take i) ++ if l[i].star = true then [] else [l[i].e] := by
  unfold exprsI
  rw [List.take_succ_eq_append_getElem h, List.filter_append, List.map_append]
  congr 1
  simp only [List.filter_cons, List.filter_nil]
  cases l[i].star <;> rfl
theorem on_step {l : List Source} {i : Nat} (h : i < l.length) : (l.take (i + 1)).flatMap Source.on = (l.take i).flatMap Source.on ++ l[i].on := by
  rw [List.take_succ_eq_append_getElem h, List.flatMap_append]; simp
theorem key_step {l : List SortKey} {i : Nat} (h : i < l.length) : (l.take (i + 1)).map SortKey.e = (l.take i).map SortKey.e ++ [l[i].e] := by
  rw [List.take_succ_eq_append_getElem h, List.map_append]; rfl
theorem exprsI_len (l : List Item) : (exprsI l).length ≤ l.length := by
  unfold exprsI
  rw [List.length_map]; exact List.length_filter_le _ _
theorem on_len : ∀ l : List Source, (l.flatMap Source.on).length + l.length ≤ szSources l
  | [] => by simp [szSources]
  | .mk t a o :: r => by
    have := on_len r
    rw [szSources, szSource_mk, List.flatMap_cons, List.length_append, List.length_cons, szExprs_eq]
    show o.length + _ + _ ≤ _
    omega
theorem take_on_len (l : List Source) (i : Nat) : ((l.take i).flatMap Source.on).length ≤ (l.flatMap Source.on).length := by
  conv => rhs; rw [← List.take_append_drop i l]
  rw [List.flatMap_append, List.length_append]; omega
theorem mem_sz {α : Type} (g : α → Nat) {l : List α} {x : α} (h : x ∈ l) : g x ≤ (l.map g).sum := by
  induction l with
  | nil => cases h
  | cons y r ih =>
    rw [List.map_cons, List.sum_cons]
    rcases List.mem_cons.1 h with rfl | h
    · omega
    · have := ih h; omega
theorem exprsQ_sz {q : Query} {x : Expr} (h : x ∈ exprsQ q) : szExpr x ≤ szQuery q := by
  obtain ⟨d, it, fr, wh, or, li⟩ := q
  rw [szQuery_mk, szItems_eq, szSources_eq, szExprs_eq, szSortKeys_eq]
  simp only [exprsQ, List.mem_append] at h
  rcases h with ((h | h) | h) | h
  · simp only [exprsI, List.mem_map, List.mem_filter] at h
    obtain ⟨⟨s, q, e, a⟩, ⟨hm, _⟩, rfl⟩ := h
    have := mem_sz szItem hm
    rw [szItem_mk] at this
    show szExpr e ≤ _
    omega
  · simp only [List.mem_flatMap] at h
    obtain ⟨⟨t, a, o⟩, hm, hx⟩ := h
    have := mem_sz szSource hm
    have h2 := mem_sz szExpr (show x ∈ o from hx)
    rw [szSource_mk, szExprs_eq] at this
    omega
  · have := mem_sz szExpr h; omega
  · simp only [List.mem_map] at h
    obtain ⟨⟨e, d⟩, hm, rfl⟩ := h
    have := mem_sz szSortKey hm
    rw [szSortKey_mk] at this
    show szExpr e ≤ _
    omega
theorem exprsQ_lt {q : Query} {x : Expr} (h : x ∈ exprsQ q) : SizeOf.sizeOf x < SizeOf.sizeOf q := by
  obtain ⟨d, it, fr, wh, or, li⟩ := q
  rw [Query.mk.sizeOf_spec]
  simp only [exprsQ, List.mem_append] at h
  rcases h with ((h | h) | h) | h
  · simp only [exprsI, List.mem_map, List.mem_filter] at h
    obtain ⟨⟨s, q, e, a⟩, ⟨hm, _⟩, rfl⟩ := h
    have := List.sizeOf_lt_of_mem hm
    rw [Item.mk.sizeOf_spec] at this
    show SizeOf.sizeOf e < _
    omega
  · simp only [List.mem_flatMap] at h
    obtain ⟨⟨t, a, o⟩, hm, hx⟩ := h
    have := List.sizeOf_lt_of_mem hm
    have h2 := List.sizeOf_lt_of_mem (show x ∈ o from hx)
    rw [Source.mk.sizeOf_spec] at this
    omega
  · have := List.sizeOf_lt_of_mem h; omega
  · simp only [List.mem_map] at h
    obtain ⟨⟨e, d⟩, hm, rfl⟩ := h
    have := List.sizeOf_lt_of_mem hm
    rw [SortKey.mk.sizeOf_spec] at this
    show SizeOf.sizeOf e < _
    omega
theorem exprsQ_len (q : Query) : (exprsQ q).length ≤ szQuery q := by
  obtain ⟨d, it, fr, wh, or, li⟩ := q
  have h1 := exprsI_len it
  have h2 := on_len fr
  rw [szQuery_mk, szItems_eq, szExprs_eq, szSortKeys_eq]
  simp only [exprsQ, List.length_append, List.length_map]
  omega
def below (x e : Expr) : Prop := x ∈ e.kids ∨ ∃ q ∈ e.sub, x ∈ exprsQ q
theorem below_lt {x e : Expr} (h : below x e) : SizeOf.sizeOf x < SizeOf.sizeOf e := by
  obtain ⟨k, o, n, v, q, m, ks, ss⟩ := e
  rw [Expr.mk.sizeOf_spec]
  rcases h with h | ⟨y, hy, h⟩
  · have := List.sizeOf_lt_of_mem (show x ∈ ks from h); omega
  · have := List.sizeOf_lt_of_mem (show y ∈ ss from hy)
    have := exprsQ_lt h
    omega
theorem below_sz {x e : Expr} (h : below x e) : szExpr x ≤ szExpr e := by
  obtain ⟨k, o, n, v, q, m, ks, ss⟩ := e
  rw [szExpr_mk, szExprs_eq, szQuerys_eq]
  rcases h with h | ⟨y, hy, h⟩
  · have := mem_sz szExpr (show x ∈ ks from h); omega
  · have := mem_sz szQuery (show y ∈ ss from hy)
    have := exprsQ_sz h
    omega
theorem sub_sz {q : Query} {e : Expr} (h : q ∈ e.sub) : szQuery q ≤ szExpr e := by
  obtain ⟨k, o, n, v, q', m, ks, ss⟩ := e
  rw [szExpr_mk, szExprs_eq, szQuerys_eq]
  have := mem_sz szQuery (show q ∈ ss from h); omega
noncomputable def foldE {α : Type} [Inhabited α] (F : (Expr → α) → Expr → α) (e : Expr) : α := F (fun x => if h : SizeOf.sizeOf x < SizeOf.sizeOf e then foldE F x else default) e
termination_by SizeOf.sizeOf e
theorem foldE_ind {α : Type} [Inhabited α] {F : (Expr → α) → Expr → α} {P : Expr → α → Prop} (h : ∀ e g, (∀ x, below x e → P x (g x)) → P e (F g e)) (e : Expr) : P e (foldE F e) := by
  suffices H : ∀ n : Nat, ∀ e : Expr, SizeOf.sizeOf e < n → P e (foldE F e) from H _ e (Nat.lt_succ_self _)
  intro n
  induction n with
  | zero => exact fun _ h => absurd h (Nat.not_lt_zero _)
  | succ n ih =>
    intro e he
    rw [foldE]
    refine h e _ fun x hx => ?_
    have := below_lt hx
    simp only [dif_pos this]
    exact ih x (by omega)
end Go.Proofs.YthhkmmcgjnecbaaGreatDoor
set_option maxRecDepth 8000
namespace Go.Proofs.YthhkmmcgjnecbaaGreatDoor
open Go Go.Dv
open Go.Vc (D shrI xorI andI and255)
open Go.Cv
open Go.Vc (CellF ValsF callable)
theorem Tok.row_mk (kind : Int) (text : ByteArray) (at_ : Int) : (Tok.mk kind text at_).row = [int kind, str text, int at_] := rfl
theorem Tok.lits : ∀ (l : List Tok), ∀ d ∈ l.flatMap Tok.row, ∃ x, d = .lit x := fun l d hd => by
  obtain ⟨t, _, hd⟩ := List.mem_flatMap.1 hd
  simp only [Tok.row, List.mem_cons, List.not_mem_nil, or_false] at hd
  rcases hd with rfl | rfl | rfl <;> exact ⟨_, rfl⟩
mutual
def cnTok : Tok → Nat
  | .mk kind text at_ => 3
end
mutual
def mkTok : Int → Tok → Tok
  | q, .mk kind text at_ => .mk (q) (mtext (q + 1)) (q + 1 + 1)
end
theorem cnTok_mk (kind : Int) (text : ByteArray) (at_ : Int) : cnTok (.mk kind text at_) = 3 := by simp only [cnTok, ]
theorem mkTok_mk (q : Int) (kind : Int) (text : ByteArray) (at_ : Int) : mkTok q (.mk kind text at_) = .mk (q) (mtext (q + 1)) (q + 1 + 1) := by simp only [mkTok, ]
set_option maxHeartbeats 8000000 in
theorem markToks_step (es : List Tok) : MkC 12 Tok.row mkTok cnTok es := by
  intro w k v F h hn ho hg hlib h0 h1
  obtain ⟨a, cap, rfl, hcap, hmax, hz⟩ := h.slice
  have hmax' : cap ≤ 9223372036854775807 := hmax
  have hM := Mrk.start h hn ho
  clear h hn ho
  refine ⟨by kernel_rfl, calls_of_c (vs := [.slice a es.length cap, .int .i64 k]) Tryz.func12 rfl (Nat.le_of_ble_eq_true rfl) ?_⟩
  simp (maxSteps := 10000000) only [tt, c, cl, cg0, cg1, cOp, cCall, cLoad, cLoadA, cStore, cLoop, cEnd, cRet, argsV, regsV, Go.Vc.oneCell, Nat.add_zero, seval, Tryz.f12]
  refine ⟨fun f w1 => ∃ i : Nat, f 5 = vi i ∧ f 1 = vi (k + cnL cnTok (es.take i)) ∧ i ≤ es.length ∧ Mrk w F w1 a ((mkL mkTok cnTok k (es.take i)).flatMap Tok.row) ((es.drop i).flatMap Tok.row), fun f _ => (es.length - ixS (f 5)).toNat, ?_, ?_⟩
  · simp (maxSteps := 10000000) only [tt, c, cl, cg0, cg1, cOp, cCall, cLoad, cLoadA, cStore, cLoop, cEnd, cRet, argsV, regsV, Go.Vc.oneCell, Nat.add_zero, seval]
    exact ⟨0, rfl, viE (by simp [cnL]), by omega, by simpa [mkL] using hM⟩
  · rintro g w0 ⟨i, h5, h1', hi, hM⟩
    simp (maxSteps := 10000000) only [tt, c, cl, cg0, cg1, cOp, cCall, cLoad, cLoadA, cStore, cLoop, cEnd, cRet, argsV, regsV, Go.Vc.oneCell, Nat.add_zero, seval] at h5 h1'
    simp (maxSteps := 10000000) only [tt, c, cl, cg0, cg1, cOp, cCall, cLoad, cLoadA, cStore, cLoop, cEnd, cRet, argsV, regsV, Go.Vc.oneCell, Nat.add_zero, seval, h5, h1', Int.ofNat_lt]
    refine And.intro (fun hlt => ?_) (fun hge => ?_)
    · have hlt : i < es.length := by omega
      have hd : es.drop i = es[i] :: es.drop (i + 1) := List.drop_eq_getElem_cons hlt
      have hks := cnL_take_succ cnTok es i hlt
      have hkl := cnL_take_le cnTok es (i + 1)
      have hts := mkL_take_succ mkTok cnTok k es i hlt
      have hdl : ((mkL mkTok cnTok k (es.take i)).flatMap Tok.row).length = i * 3 := by rw [flatMap_len Tok.row_len, mkL_len, List.length_take]; congr 1; omega
      rw [hd, List.flatMap_cons] at hM
      generalize hk0 : k + (cnL cnTok (es.take i) : Int) = k0 at *
      generalize hdone : (mkL mkTok cnTok k (es.take i)).flatMap Tok.row = done at *
      obtain ⟨e, he⟩ : ∃ e, es[i] = e := ⟨_, rfl⟩
      rw [he] at hks hts hM
      obtain ⟨kind, text, at_⟩ := e
      rw [cnTok_mk] at hks
      simp only [List.cons_append, List.nil_append, Tok.row_mk, Val.row] at hM
      obtain ⟨b, o, rfl, hM0⟩ := hM.open (by simp)
      clear hM
      have hc0 := hM0.chl
      obtain ⟨q0, z0, w1, e0, hM1⟩ := Mrk1.st hM0 (o + i * 3) (.int .i64 k0) (by simp [hdl]; try omega) trivial
      have hc1 := hM1.chl
      refine ⟨by omega, by omega, q0, z0, w1, e0, Stp.go ?_⟩
      simp (maxSteps := 10000000) only [tt, c, cl, cg0, cg1, cOp, cCall, cLoad, cLoadA, cStore, cLoop, cEnd, cRet, argsV, regsV, Go.Vc.oneCell, Nat.add_zero, seval, h5, h1']
      rw [wrap_id (n := k0 + 1) (by omega) (by omega)]
      generalize hk1 : k0 + 1 = k1 at *
      obtain ⟨hcb1, hcl1⟩ := markText_c k1 w1 (glw_chl hc1 hg hlib) (by omega)
      refine ⟨hcb1, _, hcl1, ?_⟩
      rintro _ w2 ⟨rfl, hgr1⟩
      replace hM2 := hM1.grow hgr1
      have hc2 := hM2.chl
      refine Stp.go ?_
      simp (maxSteps := 10000000) only [tt, c, cl, cg0, cg1, cOp, cCall, cLoad, cLoadA, cStore, cLoop, cEnd, cRet, argsV, regsV, Go.Vc.oneCell, Nat.add_zero, seval, h5, h1']
      obtain ⟨q1, z1, w3, e2, hM3⟩ := Mrk1.st hM2 (o + i * 3 + 1) (.string (mtext k1)) (by simp [hdl]; try omega) (mtext_ok (by omega))
      have hc3 := hM3.chl
      refine ⟨by omega, by omega, q1, z1, w3, e2, Stp.go ?_⟩
      simp (maxSteps := 10000000) only [tt, c, cl, cg0, cg1, cOp, cCall, cLoad, cLoadA, cStore, cLoop, cEnd, cRet, argsV, regsV, Go.Vc.oneCell, Nat.add_zero, seval, h5, h1']
      rw [wrap_id (n := k1 + 1) (by omega) (by omega)]
      generalize hk2 : k1 + 1 = k2 at *
      obtain ⟨q2, z2, w4, e3, hM4⟩ := Mrk1.st hM3 (o + i * 3 + 2) (.int .i64 k2) (by simp [hdl]; try omega) trivial
      have hc4 := hM4.chl
      refine ⟨by omega, by omega, q2, z2, w4, e3, Stp.go ?_⟩
      simp (maxSteps := 10000000) only [tt, c, cl, cg0, cg1, cOp, cCall, cLoad, cLoadA, cStore, cLoop, cEnd, cRet, argsV, regsV, Go.Vc.oneCell, Nat.add_zero, seval, h5, h1']
      rw [wrap_id (n := k2 + 1) (by omega) (by omega)]
      generalize hk3 : k2 + 1 = k3 at *
      rw [wrap_id (n := (i : Int) + 1) (by omega) (by omega)]
      refine ⟨⟨i + 1, rfl, viE (by rw [hks]; omega), by omega, ?_⟩, by simp only [ixS]; omega⟩
      rw [hts, List.flatMap_append]
      have := hM4.close
      rw [hdone]
      simpa [mkTok_mk, List.cons_append, List.nil_append, Tok.row_mk, Val.row, hk1, hk2, hk3, mkL_len, int, bool, str] using this
    · have : i = es.length := by omega
      subst this
      rw [List.take_length, List.drop_length] at hM
      obtain ⟨hc, ho, hcg⟩ := hM.done hcap hmax hz
      exact ⟨by rw [List.take_length], hc, ho, hcg⟩
theorem cnTok_L : ∀ es : List Tok, cnL cnTok es = 3 * es.length
  | [] => rfl
  | e :: es => by rw [cnL, cnTok_L es, List.length_cons]; cases e; rw [cnTok_mk]; omega
theorem mkTok_get (k : Int) (es : List Tok) (i : Nat) (h : i < es.length) : (mkL mkTok cnTok k es)[i]? = some ⟨k + 3 * i, mtext (k + 3 * i + 1), k + 3 * i + 2⟩ := by
  rw [mkL_get mkTok cnTok k es i h, cnTok_L, List.length_take, Nat.min_eq_left (by omega)]
  cases es[i] with
  | mk a b c =>
    rw [mkTok_mk]
    have e : ((3 * i : Nat) : Int) = 3 * (i : Int) := by omega
    rw [e]
    congr 2
    omega
end Go.Proofs.YthhkmmcgjnecbaaGreatDoor
