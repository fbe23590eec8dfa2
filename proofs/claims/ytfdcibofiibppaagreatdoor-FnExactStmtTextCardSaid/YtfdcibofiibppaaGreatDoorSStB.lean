/-
  Both print statements alike.
  Conditions: none.
-/
import Derived.Test.YtfdcibofiibppaaGreatDoorSStA
import Derived.Test.YtfdcibofiibppaaGreatDoorRows
import Derived.ProofKit
import Derived.OpenShut
import Derived.Lib.LaidTab
import Derived.Stop.LaidErr
import Derived.MakeChecks
import Derived.Lay
import Derived.Test.YtfdcibofiibppaaGreatDoorTie
import Derived.Test.YtfdcibofiibppaaGreatDoorCards
import Derived.SevenTiedAt
import Derived.RowKitTokens
set_option linter.unusedVariables false
set_option linter.unusedSimpArgs false
set_option maxRecDepth 8000
namespace Go.Proofs.YtfdcibofiibppaaGreatDoor
open Go Go.Dv
open Go.Vc (D shrI xorI andI and255)
def eqT : Tok := gT ⟨#[61]⟩
def elF (g : Expr → List Tok) (l : List Expr) (i : Nat) : List Tok := cmL i ++ atL l g i
def rowT (g : Expr → List Tok) (x : ERow) : List Tok := lpT :: (seqN (elF g x.l) x.l.length ++ [rpT])
def rowsF (g : Expr → List Tok) (rows : List ERow) (i : Nat) : List Tok := cmL i ++ atL rows (rowT g) i
def setF' (g : Expr → List Tok) (cols : List ByteArray) (sets : List Expr) (i : Nat) : List Tok := cmL i ++ (atL cols (fun c => [nT c, eqT]) i ++ atL sets g i)
def stTok (g : Expr → List Tok) : Stmt → List Tok
  | .mk kind q table rows cols sets where2 =>
    if kind = 1 then quT g q else if kind = 2 then kT 23 :: kT 24 :: nT table :: kT 25 :: seqN (rowsF g rows) rows.length
    else if kind = 3 then kT 26 :: nT table :: kT 27 :: (seqN (setF' g cols sets) cols.length ++ whL g where2) else kT 28 :: kT 3 :: nT table :: whL g where2
section
variable {gn : Expr → Nat} {g : Expr → List Tok}
theorem sm_els {l : List Expr} (h : ∀ x ∈ l, Sm (150 * gn x) (g x)) : Sm (l.length + 150 * (l.map gn).sum) (seqN (elF g l) l.length) := by
  have s1 : Sm _ (seqN (elF g l) l.length) := Sm.seq (b := fun i => 1 + optN (fun x => 150 * gn x) l[i]?) fun i hi => by
    show Sm _ (cmL i ++ atL l g i)
    rw [atL_get hi]
    simp only [List.getElem?_eq_getElem hi, optN]
    exact (Sm.ite (Sm.one (by decide)) (Sm.nil.le (by omega) : Sm 1 [])).app (h _ (List.getElem_mem hi))
  rw [range_sum l 1 (fun x => 150 * gn x), mul_sum] at s1
  exact s1.le (by omega)
theorem sm_rows {rows : List ERow} (hr : rows.all r12 = true) (h : ∀ x ∈ rows.flatMap ERow.l, Sm (150 * gn x) (g x)) : Sm (15 * rows.length + 150 * ((rows.flatMap ERow.l).map gn).sum) (seqN (rowsF g rows) rows.length) := by
  have s1 : Sm _ (seqN (rowsF g rows) rows.length) := Sm.seq (b := fun i => 15 + optN (fun x : ERow => 150 * (x.l.map gn).sum) rows[i]?) fun i hi => by
    have hm := List.getElem_mem hi
    have h12 := List.all_eq_true.1 hr _ hm
    simp only [r12, decide_eq_true_eq] at h12
    show Sm _ (cmL i ++ atL rows (rowT g) i)
    rw [atL_get hi]
    simp only [List.getElem?_eq_getElem hi, optN]
    have se := sm_els (gn := gn) (g := g) (l := rows[i].l) fun x hx => h x (List.mem_flatMap.2 ⟨_, hm, hx⟩)
    exact ((Sm.ite (Sm.one (by decide)) (Sm.nil.le (by omega) : Sm 1 [])).app (Sm.cons (by decide) (se.app (Sm.one (by decide))))).le (by omega)
  rw [range_sum rows 15 (fun x : ERow => 150 * (x.l.map gn).sum)] at s1
  have e : (rows.map fun x : ERow => 150 * (x.l.map gn).sum).sum = 150 * ((rows.flatMap ERow.l).map gn).sum := by
    clear s1 h hr
    induction rows with
    | nil => rfl
    | cons x r ih => rw [List.map_cons, List.sum_cons, ih, List.flatMap_cons, List.map_append, List.sum_append, Nat.mul_add]
  rw [e] at s1
  exact s1
theorem sm_sets {cols : List ByteArray} {sets : List Expr} (hc : cols.all nameB = true) (he : sets.length = cols.length) (h : ∀ x ∈ sets, Sm (150 * gn x) (g x)) : Sm (3 * sets.length + 150 * (sets.map gn).sum) (seqN (setF' g cols sets) cols.length) := by
  have s1 : Sm _ (seqN (setF' g cols sets) sets.length) := Sm.seq (b := fun i => 3 + optN (fun x => 150 * gn x) sets[i]?) fun i hi => by
    have hi' : i < cols.length := by omega
    have hn := List.all_eq_true.1 hc _ (List.getElem_mem hi')
    simp only [nameB, decide_eq_true_eq] at hn
    show Sm _ (cmL i ++ (atL cols (fun c => [nT c, eqT]) i ++ atL sets g i))
    rw [atL_get hi, atL_get hi']
    simp only [List.getElem?_eq_getElem hi, optN]
    exact ((Sm.ite (Sm.one (by decide)) (Sm.nil.le (by omega) : Sm 1 [])).app ((Sm.cons (by show (cols[i]).size ≤ 40; omega) (Sm.one (by decide))).app (h _ (List.getElem_mem hi)))).le (by omega)
  rw [range_sum sets 3 (fun x => 150 * gn x), mul_sum] at s1
  rw [← he]
  exact s1
end
def RgS (s : Stmt) : Prop := s.query.lim ≤ 9223372036854775807 ∧ ∀ x, x ∈ stExprs s → Rg x
theorem st_parts {s : Stmt} (h : stOk s = true) : smB s = true ∧ match s with
    | .mk kind q table rows cols sets where2 => (kind = 1 ∧ fmQ fmE q = true) ∨ (kind ≠ 1 ∧ nameB table = true ∧ (∀ x ∈ rows.flatMap ERow.l, fmE x = true) ∧ (∀ x ∈ sets, fmE x = true) ∧ (∀ x ∈ where2, fmE x = true) ∧
        ((kind = 2 ∧ rows.length ≤ 5 ∧ rows.all r12 = true) ∨ (kind = 3 ∧ cols.length ≤ 12 ∧ sets.length = cols.length ∧ cols.all nameB = true) ∨ kind = 4)) := by
  obtain ⟨kind, q, table, rows, cols, sets, where2⟩ := s
  simp only [stOk, Bool.and_eq_true] at h
  refine ⟨h.1, ?_⟩
  have h := h.2
  simp only [shI] at h
  by_cases k1 : kind = 1
  · simp only [if_pos k1, Bool.and_eq_true] at h
    exact .inl ⟨k1, h.2.2.2.2.2⟩
  refine .inr ⟨k1, ?_⟩
  simp only [if_neg k1, Bool.and_eq_true, stExprs, List.all_append] at h
  obtain ⟨_, h1, ⟨⟨⟨_, h2⟩, h3⟩, h4⟩, h5⟩ := h
  refine ⟨h1, List.all_eq_true.1 h2, List.all_eq_true.1 h3, List.all_eq_true.1 h4, ?_⟩
  unfold tail2 at h5
  by_cases k2 : kind = 2
  · simp only [if_pos k2, Bool.and_eq_true, decide_eq_true_eq] at h5
    exact .inl ⟨k2, h5.2.2.2.2.1, h5.2.2.2.2.2⟩
  simp only [if_neg k2] at h5
  by_cases k3 : kind = 3
  · simp only [if_pos k3, Bool.and_eq_true, decide_eq_true_eq] at h5
    exact .inr (.inl ⟨k3, h5.2.2.1, h5.2.2.2.1, h5.2.2.2.2.2⟩)
  simp only [if_neg k3] at h5
  by_cases k4 : kind = 4
  · exact .inr (.inr k4)
  · simp [if_neg k4] at h5
theorem st_sm (full : Bool) {s : Stmt} (h : stOk s = true) (hr : RgS s) : Sm 60000 (stTok (tkE full) s) := by
  obtain ⟨hsm, hp⟩ := st_parts h
  obtain ⟨kind, q, table, rows, cols, sets, where2⟩ := s
  obtain ⟨hlim, hrg⟩ := hr
  simp only [smB, Bool.and_eq_true, decide_eq_true_eq] at hsm
  have hsum := hsm.2
  simp only [stExprs, List.map_append, List.sum_append] at hsum
  simp only [stExprs, List.mem_append] at hrg
  have he : ∀ x, fmE x = true → Rg x → Sm (150 * ndE x) (tkE full x) := fun x => tkE_sm full x
  rcases hp with ⟨rfl, hq⟩ | ⟨k1, hn, h2, h3, h4, hk⟩
  · have hb : ∀ x ∈ exprsQ q, fmE x = true := by
      obtain ⟨d, it, fr, wh, od, li⟩ := q
      exact (fq_parts hq).2.2.2.2.2.2.2
    have := sm_q (gn := ndE) (g := tkE full) hq hlim fun x hx => he x (hb x hx) (hrg x (.inl (.inl (.inl hx))))
    exact this.le (by omega)
  · simp only [nameB, decide_eq_true_eq] at hn
    have hnm : (nT table).text.size ≤ 40 := by show table.size ≤ 40; omega
    have sw := sm_wh (gn := ndE) (g := tkE full) (l := where2) fun x hx => he x (h4 x hx) (hrg x (.inr hx))
    rcases hk with ⟨rfl, hl, h12⟩ | ⟨rfl, hl, hsl, hc⟩ | rfl
    · have sr := sm_rows (gn := ndE) (g := tkE full) h12 fun x hx => he x (h2 x hx) (hrg x (.inl (.inl (.inr hx))))
      exact (Sm.cons (sm_key 23) (Sm.cons (sm_key 24) (Sm.cons hnm (Sm.cons (sm_key 25) sr)))).le (by omega)
    · have ss := sm_sets (gn := ndE) (g := tkE full) hc hsl fun x hx => he x (h3 x hx) (hrg x (.inl (.inr hx)))
      exact (Sm.cons (sm_key 26) (Sm.cons hnm (Sm.cons (sm_key 27) (ss.app sw)))).le (by omega)
    · exact (Sm.cons (sm_key 28) (Sm.cons (sm_key 3) (Sm.cons hnm sw))).le (by omega)
set_option maxHeartbeats 4000000 in
theorem l11Rows_d (full : Bool) (rows : List ERow) (g : Expr → List Tok) (hsz : szERows rows ≤ 1048576) (hg : ∀ x ∈ rows.flatMap ERow.l, TkC full x (g x)) (out : List Tok) (hroom : out.length + (seqN (rowsF g rows) rows.length).length ≤ 1000000) : Cl Tryz.prog 87 [.c (.ow 95 (out).length ((out).flatMap Tok.row) none), .c (.sl rows.length (rows.flatMap ERow.row) none), vb full] [] fun r _ => r = .c (.ow 95 (out ++ seqN (rowsF g rows) rows.length).length ((out ++ seqN (rowsF g rows) rows.length).flatMap Tok.row) none) := by
  have hrn := rows_len rows
  refine cl_of_d follows_mixed false Tryz.func87 rfl (by kernel_rfl) ?_
  simp only [Tryz.f87, tt, seval]
  refine dLoop.gh [.ren 9500 53] ⟨by decide, by decide, ?_⟩
  refine dLoop0.intro (fun f L p => ∃ (i : Nat) (es : List Tok), f 7 = vi i ∧ f 0 = .c (.s 53 es.length) ∧ i ≤ rows.length ∧ es = out ++ seqN (rowsF g rows) i ∧ L = [(53, .arr 95 (es).length ((es).flatMap Tok.row) none)] ∧ p = none) (fun f _ _ => (rows.length - ixS (f 7)).toNat) [(53, .arr 95 (out).length ((out).flatMap Tok.row) none)] none ⟨SubO.cons rfl (SubO.nil _), PoSub.none _, ?_⟩ ?_
  · simp only [tt, seval]
    exact ⟨0, out, rfl, rfl, by omega, (List.append_nil _).symm, rfl⟩
  · rintro g1 L p ⟨i, eo, h7, h0, hi, heo, rfl, rfl⟩
    simp only [tt, seval] at h7 h0
    simp only [tt, seval, h7, h0, Int.ofNat_lt]
    refine fun _ => And.intro (fun hlt => ?_) (fun hge => ?_)
    · have hlt : i < rows.length := by omega
      have hst := seqN_succ (rowsF g rows) i
      have hltr := seqN_lt (rowsF g rows) hlt
      have helo : eo.length = out.length + (seqN (rowsF g rows) i).length := by rw [heo, List.length_append]
      obtain ⟨it, hit⟩ : ∃ it, it = rows[i] := ⟨_, rfl⟩
      have hx : rows[i]? = some it := by rw [hit]; exact List.getElem?_eq_getElem hlt
      have hmem : it ∈ rows := by rw [hit]; exact List.getElem_mem hlt
      have hss : rowsF g rows i = cmL i ++ rowT g it := by rw [rowsF, atL_get hlt, hit]
      rw [hss, rowT] at hltr
      have hgi : ∀ x ∈ it.l, TkC full x (g x) := fun x hx => hg x (List.mem_flatMap.2 ⟨_, hmem, hx⟩)
      have hil := mem_sz szERow hmem
      rw [szERow_eq, szExprs_eq] at hil
      rw [szERows_eq] at hsz
      have hl9 : (it.l.length ≤ 9223372036854775807) = True := eq_true (by omega)
      have i0 : ((0 : Int) ≤ (i : Int)) = True := eq_true (by omega)
      have iL : ((i : Int) < (rows.length : Int)) = True := eq_true (by omega)
      have iT : (i < rows.length) = True := eq_true hlt
      refine And.intro (fun hc => ?_) (fun hc => ?_)
      · have hcl : cmL i = [(Tok.mk 5 ⟨#[44]⟩ 0)] := if_pos (by omega)
        rw [hcl] at hltr
        simp only [ll] at hltr
        try simp only [tt, seval, h7, h0]
        refine call0 (l10Sign_d ⟨#[44]⟩) ?_ ?_ ?_
        · decide
        · simp only [tt, seval, kT, gT, nT, iT, Tok.row, h7, h0]
        rintro r rfl
        simp only [tt, seval, kT, gT, nT, iT, Tok.row, h7, h0]
        refine ⟨by kernel_rfl, ⟨by simp only [maxLen]; (try simp only [ll] at *); omega, by (try simp only [ll] at *); omega⟩, ?_⟩
        rw [tok1 (eo), len1 (eo) (Tok.mk 5 ⟨#[44]⟩ 0)]
        try simp only [tt, seval, h7, h0, idxAt hx ERow.row_len, i0, iL, iT, erowE, hl9]
        try simp only [tt, seval, h7, h0]
        refine call0 (l10Sign_d ⟨#[40]⟩) ?_ ?_ ?_
        · decide
        · simp only [tt, seval, kT, gT, nT, iT, Tok.row, h7, h0]
        rintro r rfl
        simp only [tt, seval, kT, gT, nT, iT, Tok.row, h7, h0]
        refine ⟨by kernel_rfl, ⟨by simp only [maxLen]; (try simp only [ll] at *); omega, by (try simp only [ll] at *); omega⟩, ?_⟩
        rw [tok1 (eo ++ [(Tok.mk 5 ⟨#[44]⟩ 0)]), len1 (eo ++ [(Tok.mk 5 ⟨#[44]⟩ 0)]) (Tok.mk 5 ⟨#[40]⟩ 0)]
        try simp only [tt, seval, h7, h0]
        obtain ⟨L1, hL1⟩ : ∃ L1, L1 = eo ++ [(Tok.mk 5 ⟨#[44]⟩ 0)] ++ [(Tok.mk 5 ⟨#[40]⟩ 0)] := ⟨_, rfl⟩
        have hl1 : L1.length = eo.length + 2 := by rw [hL1]; simp only [ll]
        rw [← hL1]
        refine dLoop.gh [.ren 24 10049] ⟨by decide, by decide, ?_⟩
        refine dLoop0.intro (fun f L p => ∃ (j : Nat) (es : List Tok), f 8 = vi j ∧ f 0 = .c (.s 10049 es.length) ∧ j ≤ it.l.length ∧ es = L1 ++ seqN (elF g it.l) j ∧ L = [(10049, .arr 95 (es).length ((es).flatMap Tok.row) none)] ∧ p = none) (fun f _ _ => (it.l.length - ixS (f 8)).toNat) [(10049, .arr 95 (L1).length ((L1).flatMap Tok.row) none)] none ⟨SubO.cons rfl (SubO.nil _), PoSub.none _, ?_⟩ ?_
        · simp only [tt, seval, h7]
          exact ⟨0, L1, rfl, rfl, by omega, (List.append_nil _).symm, rfl⟩
        · rintro g2 L p ⟨j, es, h8, h0, hj, hes1, rfl, rfl⟩
          simp only [tt, seval] at h8 h0
          simp only [tt, seval, h7, h8, h0, idxAt hx ERow.row_len, i0, iL, iT, erowE, hl9, Int.ofNat_lt]
          refine And.intro (fun hlt => ?_) (fun hge => ?_)
          · have hlt : j < it.l.length := by omega
            have hst2 := seqN_succ (elF g it.l) j
            have hlt2 := seqN_lt (elF g it.l) hlt
            have hel1 : es.length = L1.length + (seqN (elF g it.l) j).length := by rw [hes1, List.length_append]
            obtain ⟨e, he⟩ : ∃ e, e = it.l[j] := ⟨_, rfl⟩
            have hy : it.l[j]? = some e := by rw [he]; exact List.getElem?_eq_getElem hlt
            have hel2 : elF g it.l j = cmL j ++ g e := by rw [elF, atL_get hlt, he]
            rw [hel2] at hlt2
            have hge : ∀ out : List Tok, out.length + (g e).length ≤ 1000000 → Cl Tryz.prog 26 [.c (.ow 95 (out).length ((out).flatMap Tok.row) none), .ag (csOf e.row), vb full] [] fun r _ => r = .c (.ow 95 (out ++ g e).length ((out ++ g e).flatMap Tok.row) none) := hgi e (by rw [he]; exact List.getElem_mem hlt)
            have j0 : ((0 : Int) ≤ (j : Int)) = True := eq_true (by omega)
            have jL : ((j : Int) < (it.l.length : Int)) = True := eq_true (by omega)
            have jT : (j < it.l.length) = True := eq_true hlt
            refine And.intro (fun hc => ?_) (fun hc => ?_)
            · have hcl : cmL j = [(Tok.mk 5 ⟨#[44]⟩ 0)] := if_pos (by omega)
              rw [hcl] at hlt2 hel2
              simp only [ll] at hlt2
              try simp only [tt, seval, h7, h8, h0]
              refine call0 (l10Sign_d ⟨#[44]⟩) ?_ ?_ ?_
              · decide
              · simp only [tt, seval, kT, gT, nT, iT, Tok.row, h7, h8, h0]
              rintro r rfl
              simp only [tt, seval, kT, gT, nT, iT, Tok.row, h7, h8, h0]
              refine ⟨by kernel_rfl, ⟨by simp only [maxLen]; (try simp only [ll] at *); omega, by (try simp only [ll] at *); omega⟩, ?_⟩
              rw [tok1 (es), len1 (es) (Tok.mk 5 ⟨#[44]⟩ 0)]
              try simp only [tt, seval, h7, h8, h0, idxAt hx ERow.row_len, i0, iL, iT, erowE, hl9, idxAt hy Expr.row_len, j0, jL, jT, Expr.tk, Expr.row_len]
              try simp only [tt, seval, h7, h8, h0, idxAt hx ERow.row_len, i0, iL, iT, erowE, hl9, idxAt hy Expr.row_len, j0, jL, jT, Expr.tk, Expr.row_len]
              refine call0 (hge (es ++ [(Tok.mk 5 ⟨#[44]⟩ 0)]) (by (try simp only [ll] at *); omega)) ?_ ?_ ?_
              · decide
              · simp only [tt, seval, h7, h8, h0]
              rintro r rfl
              simp only [tt, seval, h7, h8, h0]
              try rw [wrap_id (n := (j : Int) + 1) (by omega) (by omega)]
              exact ⟨[(10049, .arr 95 (es ++ [(Tok.mk 5 ⟨#[44]⟩ 0)] ++ g e).length ((es ++ [(Tok.mk 5 ⟨#[44]⟩ 0)] ++ g e).flatMap Tok.row) none)], none, SubO.cons rfl (SubO.nil _), PoSub.none _, ⟨j + 1, es ++ [(Tok.mk 5 ⟨#[44]⟩ 0)] ++ g e, rfl, rfl, by omega, by rw [hst2, hes1, hel2]; simp [cmT, gT, List.append_assoc], rfl, rfl⟩, by simp only [ixS]; omega⟩
            · have hcl : cmL j = [] := if_neg (by omega)
              rw [hcl] at hlt2 hel2
              simp only [ll] at hlt2
              try simp only [tt, seval, h7, h8, h0, idxAt hx ERow.row_len, i0, iL, iT, erowE, hl9, idxAt hy Expr.row_len, j0, jL, jT, Expr.tk, Expr.row_len]
              refine call0 (hge (es) (by (try simp only [ll] at *); omega)) ?_ ?_ ?_
              · decide
              · simp only [tt, seval, h7, h8, h0]
              rintro r rfl
              simp only [tt, seval, h7, h8, h0]
              try rw [wrap_id (n := (j : Int) + 1) (by omega) (by omega)]
              exact ⟨[(10049, .arr 95 (es ++ g e).length ((es ++ g e).flatMap Tok.row) none)], none, SubO.cons rfl (SubO.nil _), PoSub.none _, ⟨j + 1, es ++ g e, rfl, rfl, by omega, by rw [hst2, hes1, hel2]; simp [cmT, gT, List.append_assoc], rfl, rfl⟩, by simp only [ixS]; omega⟩
          · have hje : j = it.l.length := by omega
            subst hje
            have hel1 : es.length = L1.length + (seqN (elF g it.l) it.l.length).length := by rw [hes1, List.length_append]
            try simp only [tt, seval, h7, h8, h0]
            refine call0 (l10Sign_d ⟨#[41]⟩) ?_ ?_ ?_
            · decide
            · simp only [tt, seval, kT, gT, nT, iT, Tok.row, h7, h8, h0]
            rintro r rfl
            simp only [tt, seval, kT, gT, nT, iT, Tok.row, h7, h8, h0]
            refine ⟨by kernel_rfl, ⟨by simp only [maxLen]; (try simp only [ll] at *); omega, by (try simp only [ll] at *); omega⟩, ?_⟩
            rw [tok1 (es), len1 (es) (Tok.mk 5 ⟨#[41]⟩ 0)]
            try simp only [tt, seval, h7, h8, h0]
            try rw [wrap_id (n := (i : Int) + 1) (by omega) (by omega)]
            exact ⟨[(53, .arr 95 (es ++ [(Tok.mk 5 ⟨#[41]⟩ 0)]).length ((es ++ [(Tok.mk 5 ⟨#[41]⟩ 0)]).flatMap Tok.row) none)], none, SubO.cons rfl (SubO.nil _), PoSub.none _, ⟨i + 1, es ++ [(Tok.mk 5 ⟨#[41]⟩ 0)], rfl, rfl, by omega, by rw [hst, hss, hcl, heo, rowT] at *; rw [hes1, hL1]; simp [cmT, gT, lpT, rpT, List.append_assoc], rfl, rfl⟩, by simp only [ixS]; omega⟩
      · have hcl : cmL i = [] := if_neg (by omega)
        rw [hcl] at hltr
        simp only [ll] at hltr
        try simp only [tt, seval, h7, h0]
        refine call0 (l10Sign_d ⟨#[40]⟩) ?_ ?_ ?_
        · decide
        · simp only [tt, seval, kT, gT, nT, iT, Tok.row, h7, h0]
        rintro r rfl
        simp only [tt, seval, kT, gT, nT, iT, Tok.row, h7, h0]
        refine ⟨by kernel_rfl, ⟨by simp only [maxLen]; (try simp only [ll] at *); omega, by (try simp only [ll] at *); omega⟩, ?_⟩
        rw [tok1 (eo), len1 (eo) (Tok.mk 5 ⟨#[40]⟩ 0)]
        try simp only [tt, seval, h7, h0]
        obtain ⟨L1, hL1⟩ : ∃ L1, L1 = eo ++ [(Tok.mk 5 ⟨#[40]⟩ 0)] := ⟨_, rfl⟩
        have hl1 : L1.length = eo.length + 1 := by rw [hL1]; simp only [ll]
        rw [← hL1]
        refine dLoop.gh [.ren 24 10049] ⟨by decide, by decide, ?_⟩
        refine dLoop0.intro (fun f L p => ∃ (j : Nat) (es : List Tok), f 8 = vi j ∧ f 0 = .c (.s 10049 es.length) ∧ j ≤ it.l.length ∧ es = L1 ++ seqN (elF g it.l) j ∧ L = [(10049, .arr 95 (es).length ((es).flatMap Tok.row) none)] ∧ p = none) (fun f _ _ => (it.l.length - ixS (f 8)).toNat) [(10049, .arr 95 (L1).length ((L1).flatMap Tok.row) none)] none ⟨SubO.cons rfl (SubO.nil _), PoSub.none _, ?_⟩ ?_
        · simp only [tt, seval, h7]
          exact ⟨0, L1, rfl, rfl, by omega, (List.append_nil _).symm, rfl⟩
        · rintro g2 L p ⟨j, es, h8, h0, hj, hes1, rfl, rfl⟩
          simp only [tt, seval] at h8 h0
          simp only [tt, seval, h7, h8, h0, idxAt hx ERow.row_len, i0, iL, iT, erowE, hl9, Int.ofNat_lt]
          refine And.intro (fun hlt => ?_) (fun hge => ?_)
          · have hlt : j < it.l.length := by omega
            have hst2 := seqN_succ (elF g it.l) j
            have hlt2 := seqN_lt (elF g it.l) hlt
            have hel1 : es.length = L1.length + (seqN (elF g it.l) j).length := by rw [hes1, List.length_append]
            obtain ⟨e, he⟩ : ∃ e, e = it.l[j] := ⟨_, rfl⟩
            have hy : it.l[j]? = some e := by rw [he]; exact List.getElem?_eq_getElem hlt
            have hel2 : elF g it.l j = cmL j ++ g e := by rw [elF, atL_get hlt, he]
            rw [hel2] at hlt2
            have hge : ∀ out : List Tok, out.length + (g e).length ≤ 1000000 → Cl Tryz.prog 26 [.c (.ow 95 (out).length ((out).flatMap Tok.row) none), .ag (csOf e.row), vb full] [] fun r _ => r = .c (.ow 95 (out ++ g e).length ((out ++ g e).flatMap Tok.row) none) := hgi e (by rw [he]; exact List.getElem_mem hlt)
            have j0 : ((0 : Int) ≤ (j : Int)) = True := eq_true (by omega)
            have jL : ((j : Int) < (it.l.length : Int)) = True := eq_true (by omega)
            have jT : (j < it.l.length) = True := eq_true hlt
            refine And.intro (fun hc => ?_) (fun hc => ?_)
            · have hcl : cmL j = [(Tok.mk 5 ⟨#[44]⟩ 0)] := if_pos (by omega)
              rw [hcl] at hlt2 hel2
              simp only [ll] at hlt2
              try simp only [tt, seval, h7, h8, h0]
              refine call0 (l10Sign_d ⟨#[44]⟩) ?_ ?_ ?_
              · decide
              · simp only [tt, seval, kT, gT, nT, iT, Tok.row, h7, h8, h0]
              rintro r rfl
              simp only [tt, seval, kT, gT, nT, iT, Tok.row, h7, h8, h0]
              refine ⟨by kernel_rfl, ⟨by simp only [maxLen]; (try simp only [ll] at *); omega, by (try simp only [ll] at *); omega⟩, ?_⟩
              rw [tok1 (es), len1 (es) (Tok.mk 5 ⟨#[44]⟩ 0)]
              try simp only [tt, seval, h7, h8, h0, idxAt hx ERow.row_len, i0, iL, iT, erowE, hl9, idxAt hy Expr.row_len, j0, jL, jT, Expr.tk, Expr.row_len]
              try simp only [tt, seval, h7, h8, h0, idxAt hx ERow.row_len, i0, iL, iT, erowE, hl9, idxAt hy Expr.row_len, j0, jL, jT, Expr.tk, Expr.row_len]
              refine call0 (hge (es ++ [(Tok.mk 5 ⟨#[44]⟩ 0)]) (by (try simp only [ll] at *); omega)) ?_ ?_ ?_
              · decide
              · simp only [tt, seval, h7, h8, h0]
              rintro r rfl
              simp only [tt, seval, h7, h8, h0]
              try rw [wrap_id (n := (j : Int) + 1) (by omega) (by omega)]
              exact ⟨[(10049, .arr 95 (es ++ [(Tok.mk 5 ⟨#[44]⟩ 0)] ++ g e).length ((es ++ [(Tok.mk 5 ⟨#[44]⟩ 0)] ++ g e).flatMap Tok.row) none)], none, SubO.cons rfl (SubO.nil _), PoSub.none _, ⟨j + 1, es ++ [(Tok.mk 5 ⟨#[44]⟩ 0)] ++ g e, rfl, rfl, by omega, by rw [hst2, hes1, hel2]; simp [cmT, gT, List.append_assoc], rfl, rfl⟩, by simp only [ixS]; omega⟩
            · have hcl : cmL j = [] := if_neg (by omega)
              rw [hcl] at hlt2 hel2
              simp only [ll] at hlt2
              try simp only [tt, seval, h7, h8, h0, idxAt hx ERow.row_len, i0, iL, iT, erowE, hl9, idxAt hy Expr.row_len, j0, jL, jT, Expr.tk, Expr.row_len]
              refine call0 (hge (es) (by (try simp only [ll] at *); omega)) ?_ ?_ ?_
              · decide
              · simp only [tt, seval, h7, h8, h0]
              rintro r rfl
              simp only [tt, seval, h7, h8, h0]
              try rw [wrap_id (n := (j : Int) + 1) (by omega) (by omega)]
              exact ⟨[(10049, .arr 95 (es ++ g e).length ((es ++ g e).flatMap Tok.row) none)], none, SubO.cons rfl (SubO.nil _), PoSub.none _, ⟨j + 1, es ++ g e, rfl, rfl, by omega, by rw [hst2, hes1, hel2]; simp [cmT, gT, List.append_assoc], rfl, rfl⟩, by simp only [ixS]; omega⟩
          · have hje : j = it.l.length := by omega
            subst hje
            have hel1 : es.length = L1.length + (seqN (elF g it.l) it.l.length).length := by rw [hes1, List.length_append]
            try simp only [tt, seval, h7, h8, h0]
            refine call0 (l10Sign_d ⟨#[41]⟩) ?_ ?_ ?_
            · decide
            · simp only [tt, seval, kT, gT, nT, iT, Tok.row, h7, h8, h0]
            rintro r rfl
            simp only [tt, seval, kT, gT, nT, iT, Tok.row, h7, h8, h0]
            refine ⟨by kernel_rfl, ⟨by simp only [maxLen]; (try simp only [ll] at *); omega, by (try simp only [ll] at *); omega⟩, ?_⟩
            rw [tok1 (es), len1 (es) (Tok.mk 5 ⟨#[41]⟩ 0)]
            try simp only [tt, seval, h7, h8, h0]
            try rw [wrap_id (n := (i : Int) + 1) (by omega) (by omega)]
            exact ⟨[(53, .arr 95 (es ++ [(Tok.mk 5 ⟨#[41]⟩ 0)]).length ((es ++ [(Tok.mk 5 ⟨#[41]⟩ 0)]).flatMap Tok.row) none)], none, SubO.cons rfl (SubO.nil _), PoSub.none _, ⟨i + 1, es ++ [(Tok.mk 5 ⟨#[41]⟩ 0)], rfl, rfl, by omega, by rw [hst, hss, hcl, heo, rowT] at *; rw [hes1, hL1]; simp [cmT, gT, lpT, rpT, List.append_assoc], rfl, rfl⟩, by simp only [ixS]; omega⟩
    · have hie : i = rows.length := by omega
      subst hie
      subst heo
      try simp only [tt, seval, h7, h0]
      refine ⟨_, [], owE (l := out ++ seqN (rowsF g rows) rows.length) (by rfl), endOk ?_⟩
      simp only [tt, seval, h7, h0]
set_option maxHeartbeats 8000000 in
theorem l11Stmt_d (full : Bool) (s : Stmt) (hok : stOk s = true) (hr : RgS s) (hsz : szStmt s ≤ 1048576) : Cl Tryz.prog 42 [.ag (csOf s.row), vb full] [] fun r _ => r = .c (.ow 95 (stTok (tkE full) s).length ((stTok (tkE full) s).flatMap Tok.row) none) := by
  have hlen := (st_sm full hok hr).1
  have hex := fun x hx => stExprs_sz (s := s) (x := x) hx
  obtain ⟨_, hp⟩ := st_parts hok
  obtain ⟨kind, q, table, rows, cols, sets, where2⟩ := s
  obtain ⟨hlim, hrg⟩ := hr
  have hss := hsz
  rw [szStmt_mk] at hss
  simp only [stExprs, List.mem_append] at hrg hex
  have hT : ∀ x, fmE x = true → Rg x → szExpr x ≤ 1048576 → TkC full x (tkE full x) := fun x => l10Expr_d full x
  have hQ : fmQ fmE q = true → TkQ full q (quT (tkE full) q) := fun hq => by
    have hb : ∀ x ∈ exprsQ q, fmE x = true := by
      obtain ⟨d, it, fr, wh, od, li⟩ := q
      exact (fq_parts hq).2.2.2.2.2.2.2
    exact l10Query_step full fmE (tkE full) q hq hlim (by omega) fun x hx => hT x (hb x hx) (hrg x (.inl (.inl (.inl hx)))) (Nat.le_trans (hex x (.inl (.inl (.inl hx)))) hsz)
  have hT2 : ∀ x, fmE x = true → (((x ∈ exprsQ q ∨ x ∈ rows.flatMap ERow.l) ∨ x ∈ sets) ∨ x ∈ where2) → TkC full x (tkE full x) := fun x hf hm => hT x hf (hrg x hm) (Nat.le_trans (hex x hm) hsz)
  generalize tkE full = g at *
  have hsr : szERows rows ≤ 1048576 := by omega
  have hwl : where2.length ≤ 1048576 := by rw [szExprs_eq, szExprs_eq] at hss; omega
  have hcl9 : cols.length ≤ 1048576 := by unfold szTexts at hss; omega
  clear hT hex hss
  rcases hp with ⟨rfl, hq⟩ | ⟨k1, hn, h2, h3, h4, hk⟩
  · have hq := hQ hq
    obtain ⟨distinct, items, from_, where_, order, limit⟩ := q
    have hq : ∀ out : List Tok, out.length + (quT g (Query.mk distinct items from_ where_ order limit)).length ≤ 1000000 → Cl Tryz.prog 62 [.c (.ow 95 (out).length ((out).flatMap Tok.row) none), .ag (csOf (Query.mk distinct items from_ where_ order limit).row), vb full] [] fun r _ => r = .c (.ow 95 (out ++ quT g (Query.mk distinct items from_ where_ order limit)).length ((out ++ quT g (Query.mk distinct items from_ where_ order limit)).flatMap Tok.row) none) := hq
    rw [Query.row_mk] at hq
    rw [Stmt.row_mk, Query.row_mk]
    simp only [List.cons_append, List.nil_append]
    have e : stTok g (Stmt.mk 1 (Query.mk distinct items from_ where_ order limit) table rows cols sets where2) = quT g (Query.mk distinct items from_ where_ order limit) := rfl
    rw [e] at hlen ⊢
    clear e
    refine cl_of_d follows_mixed false Tryz.func42 rfl (by kernel_rfl) ?_
    simp only [Tryz.f42, tt, seval]
    refine call0 (hq [] (by simp only [List.length_nil]; omega)) ?_ ?_ ?_
    · decide
    · simp only [tt, seval, Query.row_mk, List.length_cons, List.length_nil, List.flatMap_cons, List.flatMap_nil, List.cons_append, List.nil_append, Tok.row]
    rintro r rfl
    simp only [tt, seval, Query.row_mk, List.length_cons, List.length_nil, List.flatMap_cons, List.flatMap_nil, List.cons_append, List.nil_append, Tok.row]
    refine ⟨_, [], owE (l := [] ++ quT g (Query.mk distinct items from_ where_ order limit)) (by simp), endOk ?_⟩
    simp only [tt, seval, List.nil_append]
  have hgR : ∀ x ∈ rows.flatMap ERow.l, TkC full x (g x) := fun x hx => hT2 x (h2 x hx) (.inl (.inl (.inr hx)))
  have hgT : ∀ x ∈ sets, TkC full x (g x) := fun x hx => hT2 x (h3 x hx) (.inl (.inr hx))
  have hgW : ∀ x ∈ where2, TkC full x (g x) := fun x hx => hT2 x (h4 x hx) (.inr hx)
  obtain ⟨distinct, items, from_, where_, order, limit⟩ := q
  rw [Stmt.row_mk, Query.row_mk]
  simp only [List.cons_append, List.nil_append]
  rcases hk with ⟨rfl, hl, h12⟩ | ⟨rfl, hl, hsl, hc⟩ | rfl
  · skip
    have e : stTok g (Stmt.mk 2 (Query.mk distinct items from_ where_ order limit) table rows cols sets where2) = kT 23 :: kT 24 :: nT table :: kT 25 :: seqN (rowsF g rows) rows.length := rfl
    rw [e] at hlen ⊢
    clear e
    refine cl_of_d follows_mixed false Tryz.func42 rfl (by kernel_rfl) ?_
    simp only [Tryz.f42, tt, seval]
    simp only [ll] at hlen
    apply dDrawn_j3 5 2 1
    case h1 =>
      refine dDrawn.intro [] (pln [0, 6, 8, 3, 5, 11, 13, 15, 17, 18]) (by kernel_rfl) ?_
      simp only [tt, seval]
      all_goals repeat' first | refine brC ?_ ?_ | refine brC2 ?_ ?_
      all_goals
        refine call0 (l10Key_d 23 (by omega) (by omega)) ?_ ?_ ?_
        · decide
        · simp only [tt, seval, kT, gT, nT, iT, Tok.row]
        rintro r rfl
        simp only [tt, seval, kT, gT, nT, iT, Tok.row]
      all_goals repeat' first | refine brC ?_ ?_ | refine brC2 ?_ ?_
      all_goals
        refine call0 (l10Key_d 24 (by omega) (by omega)) ?_ ?_ ?_
        · decide
        · simp only [tt, seval, kT, gT, nT, iT, Tok.row]
        rintro r rfl
        simp only [tt, seval, kT, gT, nT, iT, Tok.row]
      all_goals repeat' first | refine brC ?_ ?_ | refine brC2 ?_ ?_
      all_goals
        refine call0 (l10Name_d table) ?_ ?_ ?_
        · decide
        · simp only [tt, seval, kT, gT, nT, iT, Tok.row]
        rintro r rfl
        simp only [tt, seval, kT, gT, nT, iT, Tok.row]
      all_goals repeat' first | refine brC ?_ ?_ | refine brC2 ?_ ?_
      all_goals
        refine call0 (l10Key_d 25 (by omega) (by omega)) ?_ ?_ ?_
        · decide
        · simp only [tt, seval, kT, gT, nT, iT, Tok.row]
        rintro r rfl
        simp only [tt, seval, kT, gT, nT, iT, Tok.row]
      all_goals repeat' first | refine brA ?_ ?_ | refine brA2 ?_ ?_ | refine brA3 ?_ ?_
      all_goals
        refine ⟨by kernel_rfl, ⟨by simp only [maxLen]; omega, by omega⟩, ?_⟩
        try simp only [tt, seval]
      all_goals exact ⟨rfl, rfl, rfl, rfl, rfl⟩
    case h2 =>
      intro f' hj0 hj1 hj2
      try simp only [tt, seval, hj0, hj1, hj2]
      refine call0 (l11Rows_d full rows g hsr hgR [(Tok.mk 1 (kw 23) 0), (Tok.mk 1 (kw 24) 0), (Tok.mk 2 table 0), (Tok.mk 1 (kw 25) 0)] (by simp only [ll]; omega)) ?_ ?_ ?_
      · decide
      · simp only [tt, seval, hj0, hj1, hj2, List.length_cons, List.length_nil, List.flatMap_cons, List.flatMap_nil, List.cons_append, List.nil_append, Tok.row]
      rintro r rfl
      simp only [tt, seval, hj0, hj1, hj2, List.length_cons, List.length_nil, List.flatMap_cons, List.flatMap_nil, List.cons_append, List.nil_append, Tok.row]
      refine ⟨_, [], owE (l := [(Tok.mk 1 (kw 23) 0), (Tok.mk 1 (kw 24) 0), (Tok.mk 2 table 0), (Tok.mk 1 (kw 25) 0)] ++ seqN (rowsF g rows) rows.length) (by rfl), endOk ?_⟩
      simp only [tt, seval, List.length_cons, List.length_nil, List.flatMap_cons, List.flatMap_nil, List.cons_append, List.nil_append, Tok.row, hj0, hj1, hj2]
  · skip
    have e : stTok g (Stmt.mk 3 (Query.mk distinct items from_ where_ order limit) table rows cols sets where2) = kT 26 :: nT table :: kT 27 :: (seqN (setF' g cols sets) cols.length ++ whL g where2) := rfl
    rw [e] at hlen ⊢
    clear e
    refine cl_of_d follows_mixed false Tryz.func42 rfl (by kernel_rfl) ?_
    simp only [Tryz.f42, tt, seval]
    simp only [ll] at hlen
    apply dDrawn_j3 5 2 1
    case h1 =>
      refine dDrawn.intro [] (pln [0, 4, 6, 3, 9, 11, 13, 15, 16]) (by kernel_rfl) ?_
      simp only [tt, seval]
      all_goals repeat' first | refine brC ?_ ?_ | refine brC2 ?_ ?_
      all_goals
        refine call0 (l10Key_d 26 (by omega) (by omega)) ?_ ?_ ?_
        · decide
        · simp only [tt, seval, kT, gT, nT, iT, Tok.row]
        rintro r rfl
        simp only [tt, seval, kT, gT, nT, iT, Tok.row]
      all_goals repeat' first | refine brC ?_ ?_ | refine brC2 ?_ ?_
      all_goals
        refine call0 (l10Name_d table) ?_ ?_ ?_
        · decide
        · simp only [tt, seval, kT, gT, nT, iT, Tok.row]
        rintro r rfl
        simp only [tt, seval, kT, gT, nT, iT, Tok.row]
      all_goals repeat' first | refine brC ?_ ?_ | refine brC2 ?_ ?_
      all_goals
        refine call0 (l10Key_d 27 (by omega) (by omega)) ?_ ?_ ?_
        · decide
        · simp only [tt, seval, kT, gT, nT, iT, Tok.row]
        rintro r rfl
        simp only [tt, seval, kT, gT, nT, iT, Tok.row]
      all_goals repeat' first | refine brA ?_ ?_ | refine brA2 ?_ ?_ | refine brA3 ?_ ?_
      all_goals
        refine ⟨by kernel_rfl, ⟨by simp only [maxLen]; omega, by omega⟩, ?_⟩
        try simp only [tt, seval]
      all_goals exact ⟨rfl, rfl, rfl, rfl, rfl⟩
    case h2 =>
      intro f' hj0 hj1 hj2
      try simp only [tt, seval, hj0, hj1, hj2]
      obtain ⟨L1, hL1⟩ : ∃ L1, L1 = ([(Tok.mk 1 (kw 26) 0), (Tok.mk 2 table 0), (Tok.mk 1 (kw 27) 0)] : List Tok) := ⟨_, rfl⟩
      have hl1 : L1.length = 3 := by rw [hL1]; rfl
      have hds : [(Tok.mk 1 (kw 26) 0), (Tok.mk 2 table 0), (Tok.mk 1 (kw 27) 0)].flatMap Tok.row = L1.flatMap Tok.row := by rw [hL1]
      simp only [List.length_cons, List.length_nil, List.flatMap_cons, List.flatMap_nil, List.cons_append, List.nil_append, Tok.row] at hds
      refine dLoop.gh [.ren 42 10072] ⟨by decide, by decide, ?_⟩
      refine dLoop0.intro (fun f L p => ∃ (i : Nat) (es : List Tok), f 6 = vi i ∧ f 5 = .c (.s 10072 es.length) ∧ i ≤ cols.length ∧ es = L1 ++ seqN (setF' g cols sets) i ∧ L = [(10072, .arr 95 (es).length ((es).flatMap Tok.row) none), (2, .str [.v (.int .i64 3), .v (.bool distinct), .sl items.length (items.flatMap Item.row) none, .sl from_.length (from_.flatMap Source.row) none, .sl where_.length (where_.flatMap Expr.row) none, .sl order.length (order.flatMap SortKey.row) none, .v (.int .i64 limit), .v (.string table), .sl rows.length (rows.flatMap ERow.row) none, .sl cols.length (cols.flatMap srow) none, .sl sets.length (sets.flatMap Expr.row) none, .sl where2.length (where2.flatMap Expr.row) none])] ∧ p = none) (fun f _ _ => (cols.length - ixS (f 6)).toNat) [(10072, .arr 95 (L1).length ((L1).flatMap Tok.row) none), (2, .str [.v (.int .i64 3), .v (.bool distinct), .sl items.length (items.flatMap Item.row) none, .sl from_.length (from_.flatMap Source.row) none, .sl where_.length (where_.flatMap Expr.row) none, .sl order.length (order.flatMap SortKey.row) none, .v (.int .i64 limit), .v (.string table), .sl rows.length (rows.flatMap ERow.row) none, .sl cols.length (cols.flatMap srow) none, .sl sets.length (sets.flatMap Expr.row) none, .sl where2.length (where2.flatMap Expr.row) none])] none ⟨?_, PoSub.none _, ?_⟩ ?_
      · rw [← hds, hl1]
        exact SubO.cons rfl (SubO.cons rfl (SubO.nil _))
      · simp only [tt, seval, hj0, hj1, hj2]
        exact ⟨0, L1, rfl, by rw [hl1], by omega, (List.append_nil _).symm, rfl⟩
      rintro g' L p ⟨i, es, h6, h5, hi, hes0, rfl, rfl⟩
      simp only [tt, seval] at h6 h5
      simp only [tt, seval, h6, h5, hj1, hj2, Int.ofNat_lt]
      refine fun _ => And.intro (fun hlt => ?_) (fun hge => ?_)
      · have hlt : i < cols.length := by omega
        have hls : i < sets.length := by omega
        have hst := seqN_succ (setF' g cols sets) i
        have hlt2 := seqN_lt (setF' g cols sets) hlt
        have hel : es.length = L1.length + (seqN (setF' g cols sets) i).length := by rw [hes0, List.length_append]
        obtain ⟨c, hc⟩ : ∃ c, c = cols[i] := ⟨_, rfl⟩
        have hxc : cols[i]? = some c := by rw [hc]; exact List.getElem?_eq_getElem hlt
        obtain ⟨e, he⟩ : ∃ e, e = sets[i] := ⟨_, rfl⟩
        have hxs : sets[i]? = some e := by rw [he]; exact List.getElem?_eq_getElem hls
        have hel2 : setF' g cols sets i = cmL i ++ ([nT c, eqT] ++ g e) := by rw [setF', atL_get hlt, atL_get hls, hc, he]
        rw [hel2] at hlt2
        have hge : ∀ out : List Tok, out.length + (g e).length ≤ 1000000 → Cl Tryz.prog 26 [.c (.ow 95 (out).length ((out).flatMap Tok.row) none), .ag (csOf e.row), vb full] [] fun r _ => r = .c (.ow 95 (out ++ g e).length ((out ++ g e).flatMap Tok.row) none) := hgT e (by rw [he]; exact List.getElem_mem hls)
        have i0 : ((0 : Int) ≤ (i : Int)) = True := eq_true (by omega)
        have iC : ((i : Int) < (cols.length : Int)) = True := eq_true (by omega)
        have iT : (i < cols.length) = True := eq_true hlt
        have iS : (i < sets.length) = True := eq_true hls
        have iS2 : ((i : Int) < (sets.length : Int)) = True := eq_true (by omega)
        refine And.intro (fun hc => ?_) (fun hc => ?_)
        · have hcl : cmL i = [(Tok.mk 5 ⟨#[44]⟩ 0)] := if_pos (by omega)
          rw [hcl] at hlt2 hel2
          simp only [ll] at hlt2
          try simp only [tt, seval, h6, h5, hj1, hj2]
          refine call0 (l10Sign_d ⟨#[44]⟩) ?_ ?_ ?_
          · decide
          · simp only [tt, seval, kT, gT, nT, iT, Tok.row, h6, h5, hj1, hj2]
          rintro r rfl
          simp only [tt, seval, kT, gT, nT, iT, Tok.row, h6, h5, hj1, hj2]
          refine ⟨by kernel_rfl, ⟨by simp only [maxLen]; (try simp only [ll] at *); omega, by (try simp only [ll] at *); omega⟩, ?_⟩
          rw [tok1 (es), len1 (es) (Tok.mk 5 ⟨#[44]⟩ 0)]
          try simp only [tt, seval, h6, h5, hj1, hj2]
          try simp only [tt, seval, h6, h5, hj1, hj2]
          apply dDrawn_j4 5 6 2 1
          case h1 =>
            refine dDrawn.intro [72] (.take 0 (.take 1 (.take 2 (.take 3 (.take 4 (.take 5 (.take 10 (.take 12 (.take 15 (.br 6 (.br 7 (.br 8 (.br 9 (.take 11 (.take 13 (.take 14 (.br 16 (.take 17 .done) .nobr)))) (.br 11 (.take 13 (.br 9 (.take 14 (.br 16 (.take 17 .done) .nobr)) (.br 14 (.br 9 (.br 16 (.take 17 .done) .nobr) .nobr) .nobr))) .nobr)) (.br 11 (.take 13 (.br 8 (.br 9 (.take 14 (.br 16 (.take 17 .done) .nobr)) (.br 14 (.br 9 (.br 16 (.take 17 .done) .nobr) .nobr) .nobr)) (.br 14 (.br 8 (.br 9 (.br 16 (.take 17 .done) .nobr) .nobr) .nobr) .nobr))) .nobr)) (.br 11 (.take 13 (.br 7 (.br 8 (.br 9 (.take 14 (.br 16 (.take 17 .done) .nobr)) (.br 14 (.br 9 (.br 16 (.take 17 .done) .nobr) .nobr) .nobr)) (.br 14 (.br 8 (.br 9 (.br 16 (.take 17 .done) .nobr) .nobr) .nobr) .nobr)) (.br 14 (.br 7 (.br 8 (.br 9 (.br 16 (.take 17 .done) .nobr) .nobr) .nobr) .nobr) .nobr))) .nobr)) (.br 11 (.take 13 (.br 6 (.br 7 (.br 8 (.br 9 (.take 14 (.br 16 (.take 17 .done) .nobr)) (.br 14 (.br 9 (.br 16 (.take 17 .done) .nobr) .nobr) .nobr)) (.br 14 (.br 8 (.br 9 (.br 16 (.take 17 .done) .nobr) .nobr) .nobr) .nobr)) (.br 14 (.br 7 (.br 8 (.br 9 (.br 16 (.take 17 .done) .nobr) .nobr) .nobr) .nobr) .nobr)) (.br 14 (.br 6 (.br 7 (.br 8 (.br 9 (.br 16 (.take 17 .done) .nobr) .nobr) .nobr) .nobr) .nobr) .nobr))) .nobr))))))))))) (by kernel_rfl) ?_
            simp only [tt, seval]
            all_goals try simp only [tt, seval, h6, h5, hj1, hj2, idxAt hxc srow_len, idxAt hxs Expr.row_len, i0, iC, iT, iS, iS2, srow, Expr.tk, Expr.row_len]
            all_goals repeat' first | refine brC ?_ ?_ | refine brC2 ?_ ?_
            all_goals
              refine call0 (l10Name_d c) ?_ ?_ ?_
              · decide
              · simp only [tt, seval, kT, gT, nT, iT, Tok.row, h6, h5, hj1, hj2, idxAt hxc srow_len, idxAt hxs Expr.row_len, i0, iC, iT, iS, iS2, srow, Expr.tk, Expr.row_len]
              rintro r rfl
              simp only [tt, seval, kT, gT, nT, iT, Tok.row, h6, h5, hj1, hj2, idxAt hxc srow_len, idxAt hxs Expr.row_len, i0, iC, iT, iS, iS2, srow, Expr.tk, Expr.row_len]
            all_goals repeat' first | refine brC ?_ ?_ | refine brC2 ?_ ?_
            all_goals
              refine call0 (l10Sign_d ⟨#[61]⟩) ?_ ?_ ?_
              · decide
              · simp only [tt, seval, kT, gT, nT, iT, Tok.row, h6, h5, hj1, hj2, idxAt hxc srow_len, idxAt hxs Expr.row_len, i0, iC, iT, iS, iS2, srow, Expr.tk, Expr.row_len]
              rintro r rfl
              simp only [tt, seval, kT, gT, nT, iT, Tok.row, h6, h5, hj1, hj2, idxAt hxc srow_len, idxAt hxs Expr.row_len, i0, iC, iT, iS, iS2, srow, Expr.tk, Expr.row_len]
            all_goals repeat' first | refine brA ?_ ?_ | refine brA2 ?_ ?_ | refine brA3 ?_ ?_
            all_goals
              refine ⟨by kernel_rfl, ⟨by simp only [maxLen]; (try simp only [ll] at *); omega, by (try simp only [ll] at *); omega⟩, ?_⟩
              rw [tok2 (es ++ [(Tok.mk 5 ⟨#[44]⟩ 0)]), len2 (es ++ [(Tok.mk 5 ⟨#[44]⟩ 0)]) (Tok.mk 2 c 0) (Tok.mk 5 ⟨#[61]⟩ 0)]
              try simp only [tt, seval, h6, h5, hj1, hj2, idxAt hxc srow_len, idxAt hxs Expr.row_len, i0, iC, iT, iS, iS2, srow, Expr.tk, Expr.row_len]
            all_goals repeat' first | refine brC ?_ ?_ | refine brC2 ?_ ?_
            all_goals
              refine call0 (hge (es ++ [(Tok.mk 5 ⟨#[44]⟩ 0)] ++ [(Tok.mk 2 c 0), (Tok.mk 5 ⟨#[61]⟩ 0)]) (by (try simp only [ll] at *); omega)) ?_ ?_ ?_
              · decide
              · simp only [tt, seval, h6, h5, hj1, hj2, idxAt hxc srow_len, idxAt hxs Expr.row_len, i0, iC, iT, iS, iS2, srow, Expr.tk, Expr.row_len]
                try decide
              rintro r rfl
              simp only [tt, seval, h6, h5, hj1, hj2, idxAt hxc srow_len, idxAt hxs Expr.row_len, i0, iC, iT, iS, iS2, srow, Expr.tk, Expr.row_len]
            all_goals exact ⟨rfl, rfl, rfl, rfl, rfl, rfl⟩
          case h2 =>
            intro f' hk0 hk1 hk2 hk3
            try simp only [tt, seval, hk0, hk1, hk2, hk3, h6, h5, hj1, hj2]
            try rw [wrap_id (n := (i : Int) + 1) (by omega) (by omega)]
            exact ⟨[(10072, .arr 95 (es ++ [(Tok.mk 5 ⟨#[44]⟩ 0)] ++ [(Tok.mk 2 c 0), (Tok.mk 5 ⟨#[61]⟩ 0)] ++ g e).length ((es ++ [(Tok.mk 5 ⟨#[44]⟩ 0)] ++ [(Tok.mk 2 c 0), (Tok.mk 5 ⟨#[61]⟩ 0)] ++ g e).flatMap Tok.row) none), (2, .str [.v (.int .i64 3), .v (.bool distinct), .sl items.length (items.flatMap Item.row) none, .sl from_.length (from_.flatMap Source.row) none, .sl where_.length (where_.flatMap Expr.row) none, .sl order.length (order.flatMap SortKey.row) none, .v (.int .i64 limit), .v (.string table), .sl rows.length (rows.flatMap ERow.row) none, .sl cols.length (cols.flatMap srow) none, .sl sets.length (sets.flatMap Expr.row) none, .sl where2.length (where2.flatMap Expr.row) none])], none, SubO.cons rfl (SubO.cons rfl (SubO.nil _)), PoSub.none _, ⟨i + 1, es ++ [(Tok.mk 5 ⟨#[44]⟩ 0)] ++ [(Tok.mk 2 c 0), (Tok.mk 5 ⟨#[61]⟩ 0)] ++ g e, rfl, rfl, by omega, by rw [hst, hes0, hel2]; simp [eqT, nT, gT, List.append_assoc], rfl, rfl⟩, by simp only [ixS]; omega⟩
        · have hcl : cmL i = [] := if_neg (by omega)
          rw [hcl] at hlt2 hel2
          simp only [ll] at hlt2
          try simp only [tt, seval, h6, h5, hj1, hj2]
          apply dDrawn_j4 5 6 2 1
          case h1 =>
            refine dDrawn.intro [72] (.take 0 (.take 1 (.take 2 (.take 3 (.take 4 (.take 5 (.take 10 (.take 12 (.take 15 (.br 6 (.br 7 (.br 8 (.br 9 (.take 11 (.take 13 (.take 14 (.br 16 (.take 17 .done) .nobr)))) (.br 11 (.take 13 (.br 9 (.take 14 (.br 16 (.take 17 .done) .nobr)) (.br 14 (.br 9 (.br 16 (.take 17 .done) .nobr) .nobr) .nobr))) .nobr)) (.br 11 (.take 13 (.br 8 (.br 9 (.take 14 (.br 16 (.take 17 .done) .nobr)) (.br 14 (.br 9 (.br 16 (.take 17 .done) .nobr) .nobr) .nobr)) (.br 14 (.br 8 (.br 9 (.br 16 (.take 17 .done) .nobr) .nobr) .nobr) .nobr))) .nobr)) (.br 11 (.take 13 (.br 7 (.br 8 (.br 9 (.take 14 (.br 16 (.take 17 .done) .nobr)) (.br 14 (.br 9 (.br 16 (.take 17 .done) .nobr) .nobr) .nobr)) (.br 14 (.br 8 (.br 9 (.br 16 (.take 17 .done) .nobr) .nobr) .nobr) .nobr)) (.br 14 (.br 7 (.br 8 (.br 9 (.br 16 (.take 17 .done) .nobr) .nobr) .nobr) .nobr) .nobr))) .nobr)) (.br 11 (.take 13 (.br 6 (.br 7 (.br 8 (.br 9 (.take 14 (.br 16 (.take 17 .done) .nobr)) (.br 14 (.br 9 (.br 16 (.take 17 .done) .nobr) .nobr) .nobr)) (.br 14 (.br 8 (.br 9 (.br 16 (.take 17 .done) .nobr) .nobr) .nobr) .nobr)) (.br 14 (.br 7 (.br 8 (.br 9 (.br 16 (.take 17 .done) .nobr) .nobr) .nobr) .nobr) .nobr)) (.br 14 (.br 6 (.br 7 (.br 8 (.br 9 (.br 16 (.take 17 .done) .nobr) .nobr) .nobr) .nobr) .nobr) .nobr))) .nobr))))))))))) (by kernel_rfl) ?_
            simp only [tt, seval]
            all_goals try simp only [tt, seval, h6, h5, hj1, hj2, idxAt hxc srow_len, idxAt hxs Expr.row_len, i0, iC, iT, iS, iS2, srow, Expr.tk, Expr.row_len]
            all_goals repeat' first | refine brC ?_ ?_ | refine brC2 ?_ ?_
            all_goals
              refine call0 (l10Name_d c) ?_ ?_ ?_
              · decide
              · simp only [tt, seval, kT, gT, nT, iT, Tok.row, h6, h5, hj1, hj2, idxAt hxc srow_len, idxAt hxs Expr.row_len, i0, iC, iT, iS, iS2, srow, Expr.tk, Expr.row_len]
              rintro r rfl
              simp only [tt, seval, kT, gT, nT, iT, Tok.row, h6, h5, hj1, hj2, idxAt hxc srow_len, idxAt hxs Expr.row_len, i0, iC, iT, iS, iS2, srow, Expr.tk, Expr.row_len]
            all_goals repeat' first | refine brC ?_ ?_ | refine brC2 ?_ ?_
            all_goals
              refine call0 (l10Sign_d ⟨#[61]⟩) ?_ ?_ ?_
              · decide
              · simp only [tt, seval, kT, gT, nT, iT, Tok.row, h6, h5, hj1, hj2, idxAt hxc srow_len, idxAt hxs Expr.row_len, i0, iC, iT, iS, iS2, srow, Expr.tk, Expr.row_len]
              rintro r rfl
              simp only [tt, seval, kT, gT, nT, iT, Tok.row, h6, h5, hj1, hj2, idxAt hxc srow_len, idxAt hxs Expr.row_len, i0, iC, iT, iS, iS2, srow, Expr.tk, Expr.row_len]
            all_goals repeat' first | refine brA ?_ ?_ | refine brA2 ?_ ?_ | refine brA3 ?_ ?_
            all_goals
              refine ⟨by kernel_rfl, ⟨by simp only [maxLen]; (try simp only [ll] at *); omega, by (try simp only [ll] at *); omega⟩, ?_⟩
              rw [tok2 (es), len2 (es) (Tok.mk 2 c 0) (Tok.mk 5 ⟨#[61]⟩ 0)]
              try simp only [tt, seval, h6, h5, hj1, hj2, idxAt hxc srow_len, idxAt hxs Expr.row_len, i0, iC, iT, iS, iS2, srow, Expr.tk, Expr.row_len]
            all_goals repeat' first | refine brC ?_ ?_ | refine brC2 ?_ ?_
            all_goals
              refine call0 (hge (es ++ [(Tok.mk 2 c 0), (Tok.mk 5 ⟨#[61]⟩ 0)]) (by (try simp only [ll] at *); omega)) ?_ ?_ ?_
              · decide
              · simp only [tt, seval, h6, h5, hj1, hj2, idxAt hxc srow_len, idxAt hxs Expr.row_len, i0, iC, iT, iS, iS2, srow, Expr.tk, Expr.row_len]
                try decide
              rintro r rfl
              simp only [tt, seval, h6, h5, hj1, hj2, idxAt hxc srow_len, idxAt hxs Expr.row_len, i0, iC, iT, iS, iS2, srow, Expr.tk, Expr.row_len]
            all_goals exact ⟨rfl, rfl, rfl, rfl, rfl, rfl⟩
          case h2 =>
            intro f' hk0 hk1 hk2 hk3
            try simp only [tt, seval, hk0, hk1, hk2, hk3, h6, h5, hj1, hj2]
            try rw [wrap_id (n := (i : Int) + 1) (by omega) (by omega)]
            exact ⟨[(10072, .arr 95 (es ++ [(Tok.mk 2 c 0), (Tok.mk 5 ⟨#[61]⟩ 0)] ++ g e).length ((es ++ [(Tok.mk 2 c 0), (Tok.mk 5 ⟨#[61]⟩ 0)] ++ g e).flatMap Tok.row) none), (2, .str [.v (.int .i64 3), .v (.bool distinct), .sl items.length (items.flatMap Item.row) none, .sl from_.length (from_.flatMap Source.row) none, .sl where_.length (where_.flatMap Expr.row) none, .sl order.length (order.flatMap SortKey.row) none, .v (.int .i64 limit), .v (.string table), .sl rows.length (rows.flatMap ERow.row) none, .sl cols.length (cols.flatMap srow) none, .sl sets.length (sets.flatMap Expr.row) none, .sl where2.length (where2.flatMap Expr.row) none])], none, SubO.cons rfl (SubO.cons rfl (SubO.nil _)), PoSub.none _, ⟨i + 1, es ++ [(Tok.mk 2 c 0), (Tok.mk 5 ⟨#[61]⟩ 0)] ++ g e, rfl, rfl, by omega, by rw [hst, hes0, hel2]; simp [eqT, nT, gT, List.append_assoc], rfl, rfl⟩, by simp only [ixS]; omega⟩
      have hie : i = cols.length := by omega
      subst hie
      have hel : es.length = L1.length + (seqN (setF' g cols sets) cols.length).length := by rw [hes0, List.length_append]
      try simp only [tt, seval, h6, h5, hj1, hj2]
      refine call0 (l10Where_d full where2 g hwl hgW es (by (try simp only [ll] at *); omega)) ?_ ?_ ?_
      · decide
      · simp only [tt, seval, h6, h5, hj1, hj2]
      rintro r rfl
      simp only [tt, seval, h6, h5, hj1, hj2]
      refine ⟨_, [], owE (l := es ++ whL g where2) (by rw [hes0, hL1]), endOk ?_⟩
      simp only [tt, seval, h6, h5, hj1, hj2]
  · skip
    have e : stTok g (Stmt.mk 4 (Query.mk distinct items from_ where_ order limit) table rows cols sets where2) = kT 28 :: kT 3 :: nT table :: whL g where2 := rfl
    rw [e] at hlen ⊢
    clear e
    refine cl_of_d follows_mixed false Tryz.func42 rfl (by kernel_rfl) ?_
    simp only [Tryz.f42, tt, seval]
    simp only [ll] at hlen
    apply dDrawn_j3 5 2 1
    case h1 =>
      refine dDrawn.intro [] (pln [0, 6, 8, 3, 5, 11, 13, 15, 16]) (by kernel_rfl) ?_
      simp only [tt, seval]
      all_goals repeat' first | refine brC ?_ ?_ | refine brC2 ?_ ?_
      all_goals
        refine call0 (l10Key_d 28 (by omega) (by omega)) ?_ ?_ ?_
        · decide
        · simp only [tt, seval, kT, gT, nT, iT, Tok.row]
        rintro r rfl
        simp only [tt, seval, kT, gT, nT, iT, Tok.row]
      all_goals repeat' first | refine brC ?_ ?_ | refine brC2 ?_ ?_
      all_goals
        refine call0 (l10Key_d 3 (by omega) (by omega)) ?_ ?_ ?_
        · decide
        · simp only [tt, seval, kT, gT, nT, iT, Tok.row]
        rintro r rfl
        simp only [tt, seval, kT, gT, nT, iT, Tok.row]
      all_goals repeat' first | refine brC ?_ ?_ | refine brC2 ?_ ?_
      all_goals
        refine call0 (l10Name_d table) ?_ ?_ ?_
        · decide
        · simp only [tt, seval, kT, gT, nT, iT, Tok.row]
        rintro r rfl
        simp only [tt, seval, kT, gT, nT, iT, Tok.row]
      all_goals repeat' first | refine brA ?_ ?_ | refine brA2 ?_ ?_ | refine brA3 ?_ ?_
      all_goals
        refine ⟨by kernel_rfl, ⟨by simp only [maxLen]; omega, by omega⟩, ?_⟩
        try simp only [tt, seval]
      all_goals exact ⟨rfl, rfl, rfl, rfl, rfl⟩
    case h2 =>
      intro f' hj0 hj1 hj2
      try simp only [tt, seval, hj0, hj1, hj2]
      refine call0 (l10Where_d full where2 g hwl hgW [(Tok.mk 1 (kw 28) 0), (Tok.mk 1 (kw 3) 0), (Tok.mk 2 table 0)] (by simp only [ll]; omega)) ?_ ?_ ?_
      · decide
      · simp only [tt, seval, hj0, hj1, hj2, List.length_cons, List.length_nil, List.flatMap_cons, List.flatMap_nil, List.cons_append, List.nil_append, Tok.row]
      rintro r rfl
      simp only [tt, seval, hj0, hj1, hj2, List.length_cons, List.length_nil, List.flatMap_cons, List.flatMap_nil, List.cons_append, List.nil_append, Tok.row]
      refine ⟨_, [], owE (l := [(Tok.mk 1 (kw 28) 0), (Tok.mk 1 (kw 3) 0), (Tok.mk 2 table 0)] ++ whL g where2) (by rfl), endOk ?_⟩
      simp only [tt, seval, List.length_cons, List.length_nil, List.flatMap_cons, List.flatMap_nil, List.cons_append, List.nil_append, Tok.row, hj0, hj1, hj2]
set_option maxHeartbeats 1000000 in
theorem exprs_d (full : Bool) (l : List Expr) (g : Expr → List Tok) (hll : l.length ≤ 1048576) (hg : ∀ x ∈ l, PrE full x (g x)) : PrC 104 [.c (.sl l.length (l.flatMap Expr.row) none)] full (lpT :: (seqN (elF g l) l.length ++ [rpT])) := by
  intro out hroom
  simp only [ll] at hroom
  refine cl_of_d follows_mixed false Tryz.func104 rfl (by kernel_rfl) ?_
  simp only [Tryz.f104, tt, seval]
  refine CallQ.intro (sign_d full ⟨#[40]⟩ out (by (try simp only [ll] at *); omega)) ?_ ?_ ?_
  · decide
  · simp only [tt, seval]
  rintro r os ⟨rfl, rfl⟩ hos
  simp only [tt, seval]
  refine fun _ => ?_
  obtain ⟨L1, hL1⟩ : ∃ L1, L1 = out ++ [gT ⟨#[40]⟩] := ⟨_, rfl⟩
  have hl1 : L1.length = out.length + 1 := by rw [hL1]; simp only [ll]
  rw [← hL1]
  refine dLoop.gh [.ren 10000007 10000020] ⟨by decide, by decide, ?_⟩
  refine dLoop0.intro (fun f L p => ∃ (i : Nat) (es : List Tok), f 10 = vi i ∧ i ≤ l.length ∧ es = L1 ++ seqN (elF g l) i ∧ L = [(9000, .str [.s 10000020 (es).length, .v (.bool full)]), (10000020, .arr 95 (es).length ((es).flatMap Tok.row) none)] ∧ p = none) (fun f _ _ => (l.length - ixS (f 10)).toNat) [(9000, .str [.s 10000020 (L1).length, .v (.bool full)]), (10000020, .arr 95 (L1).length ((L1).flatMap Tok.row) none)] none ⟨SubO.cons rfl (SubO.cons rfl (SubO.nil _)), PoSub.none _, ?_⟩ ?_
  · simp only [tt, seval]
    exact ⟨0, L1, rfl, by omega, (List.append_nil _).symm, rfl⟩
  · rintro g' L p ⟨i, es, h10, hi, hes, rfl, rfl⟩
    simp only [tt, seval] at h10
    simp only [tt, seval, h10, Int.ofNat_lt]
    refine And.intro (fun hlt => ?_) (fun hge => ?_)
    · have hst := seqN_succ (elF g l) i
      have hlt2 := seqN_lt (elF g l) hlt
      have hel : es.length = L1.length + (seqN (elF g l) i).length := by rw [hes, List.length_append]
      obtain ⟨it, hit⟩ : ∃ it, it = l[i] := ⟨_, rfl⟩
      have hx : l[i]? = some it := by rw [hit]; exact List.getElem?_eq_getElem hlt
      have hss : elF g l i = cmL i ++ g it := by rw [elF, atL_get hlt, hit]
      rw [hss] at hlt2
      simp only [ll] at hlt2
      have hgi : PrC 31 [.ag (csOf it.row)] full (g it) := hg it (by rw [hit]; exact List.getElem_mem hlt)
      have i0 : ((0 : Int) ≤ (i : Int)) = True := eq_true (by omega)
      have iL : ((i : Int) < (l.length : Int)) = True := eq_true (by omega)
      have iT : (i < l.length) = True := eq_true hlt
      generalize g it = le at *
      obtain ⟨k0, o0, n0, v0, q0, m0, ks0, ss0⟩ := it
      try simp only [tt, seval, h10, idxAt hx Expr.row_len, i0, iL, iT, Expr.row_mk]
      refine CallQ.intro (comma_d full i es (by (try simp only [ll] at *); omega)) ?_ ?_ ?_
      · decide
      · simp only [tt, seval, h10, Expr.row_mk]
      rintro r os ⟨rfl, rfl⟩ hos
      simp only [tt, seval, h10, Expr.row_mk]
      refine CallQ.intro (hgi (es ++ cmL i) (by (try simp only [ll] at *); omega)) ?_ ?_ ?_
      · decide
      · simp only [tt, seval, h10, Expr.row_mk]
      rintro r os ⟨rfl, rfl⟩ hos
      simp only [tt, seval, h10, Expr.row_mk]
      try rw [wrap_id (n := (i : Int) + 1) (by omega) (by omega)]
      exact ⟨[(9000, .str [.s 10000020 ((es ++ cmL i ++ le)).length, .v (.bool full)]), (10000020, .arr 95 ((es ++ cmL i ++ le)).length (((es ++ cmL i ++ le)).flatMap Tok.row) none)], none, SubO.cons rfl (SubO.cons rfl (SubO.nil _)), PoSub.none _, ⟨i + 1, es ++ cmL i ++ le, rfl, by omega, by rw [hst, hes, hss]; simp [List.append_assoc], rfl, rfl⟩, by simp only [ixS]; omega⟩
    · have hie : i = l.length := by omega
      subst hie
      have hel : es.length = L1.length + (seqN (elF g l) l.length).length := by rw [hes, List.length_append]
      try simp only [tt, seval, h10]
      refine CallQ.intro (sign_d full ⟨#[41]⟩ es (by (try simp only [ll] at *); omega)) ?_ ?_ ?_
      · decide
      · simp only [tt, seval, h10]
      rintro r os ⟨rfl, rfl⟩ hos
      simp only [tt, seval, h10]
      refine ⟨.tu [], _, ⟨rfl, osE (l := es ++ [gT ⟨#[41]⟩]) (by rw [hes, hL1]; simp [lpT, rpT, List.append_assoc])⟩, endOk ?_⟩
      simp only [tt, seval]
set_option maxHeartbeats 8000000 in
theorem stmt_d (full : Bool) (s : Stmt) (hok : stOk s = true) (hr : RgS s) (hsz : szStmt s ≤ 1048576) : PrC 47 [.ag (csOf s.row)] full (stTok (tkE full) s) := by
  intro out hroom
  have hex := fun x hx => stExprs_sz (s := s) (x := x) hx
  obtain ⟨_, hp⟩ := st_parts hok
  obtain ⟨kind, q, table, rows, cols, sets, where2⟩ := s
  obtain ⟨hlim, hrg⟩ := hr
  have hss := hsz
  rw [szStmt_mk] at hss
  simp only [stExprs, List.mem_append] at hrg hex
  have hT : ∀ x, fmE x = true → Rg x → szExpr x ≤ 1048576 → PrE full x (tkE full x) := fun x => expr_d full x
  have hQ : fmQ fmE q = true → PrQ full q (quT (tkE full) q) := fun hq => by
    have hb : ∀ x ∈ exprsQ q, fmE x = true := by
      obtain ⟨d, it, fr, wh, od, li⟩ := q
      exact (fq_parts hq).2.2.2.2.2.2.2
    exact query_step full fmE (tkE full) q hq hlim (by omega) fun x hx => hT x (hb x hx) (hrg x (.inl (.inl (.inl hx)))) (Nat.le_trans (hex x (.inl (.inl (.inl hx)))) hsz)
  have hT2 : ∀ x, fmE x = true → (((x ∈ exprsQ q ∨ x ∈ rows.flatMap ERow.l) ∨ x ∈ sets) ∨ x ∈ where2) → PrE full x (tkE full x) := fun x hf hm => hT x hf (hrg x hm) (Nat.le_trans (hex x hm) hsz)
  generalize tkE full = g at *
  have hsr : szERows rows ≤ 1048576 := by omega
  have hwl : where2.length ≤ 1048576 := by rw [szExprs_eq, szExprs_eq] at hss; omega
  have hcl9 : cols.length ≤ 1048576 := by unfold szTexts at hss; omega
  clear hT hex hss
  rcases hp with ⟨rfl, hq⟩ | ⟨k1, hn, h2, h3, h4, hk⟩
  · have hq := hQ hq
    obtain ⟨distinct, items, from_, where_, order, limit⟩ := q
    have hq : PrC 103 [.ag (csOf (Query.mk distinct items from_ where_ order limit).row)] full (quT g (Query.mk distinct items from_ where_ order limit)) := hq
    rw [Query.row_mk] at hq
    rw [Stmt.row_mk, Query.row_mk]
    simp only [List.cons_append, List.nil_append]
    have e : stTok g (Stmt.mk 1 (Query.mk distinct items from_ where_ order limit) table rows cols sets where2) = quT g (Query.mk distinct items from_ where_ order limit) := rfl
    rw [e] at hroom ⊢
    clear e
    try simp only [ll] at hroom
    refine cl_of_d follows_mixed false Tryz.func47 rfl (by kernel_rfl) ?_
    simp only [Tryz.f47, tt, seval]
    refine CallQ.intro (hq out (by (try simp only [ll] at *); omega)) ?_ ?_ ?_
    · decide
    · simp only [tt, seval, Query.row_mk]
    rintro r os ⟨rfl, rfl⟩ hos
    simp only [tt, seval, Query.row_mk]
    refine ⟨.tu [], _, ⟨rfl, osE (l := out ++ quT g (Query.mk distinct items from_ where_ order limit)) (by rfl)⟩, endOk ?_⟩
    simp only [tt, seval]
  have hgR : ∀ x ∈ rows.flatMap ERow.l, PrE full x (g x) := fun x hx => hT2 x (h2 x hx) (.inl (.inl (.inr hx)))
  have hgT : ∀ x ∈ sets, PrE full x (g x) := fun x hx => hT2 x (h3 x hx) (.inl (.inr hx))
  have hgW : ∀ x ∈ where2, PrE full x (g x) := fun x hx => hT2 x (h4 x hx) (.inr hx)
  obtain ⟨distinct, items, from_, where_, order, limit⟩ := q
  rw [Stmt.row_mk, Query.row_mk]
  simp only [List.cons_append, List.nil_append]
  rcases hk with ⟨rfl, hl, h12⟩ | ⟨rfl, hl, hsl, hc⟩ | rfl
  · skip
    have e : stTok g (Stmt.mk 2 (Query.mk distinct items from_ where_ order limit) table rows cols sets where2) = kT 23 :: kT 24 :: nT table :: kT 25 :: seqN (rowsF g rows) rows.length := rfl
    rw [e] at hroom ⊢
    clear e
    try simp only [ll] at hroom
    refine cl_of_d follows_mixed false Tryz.func47 rfl (by kernel_rfl) ?_
    simp only [Tryz.f47, tt, seval]
    refine CallQ.intro (kINSERTINTO full out (by (try simp only [ll] at *); omega)) ?_ ?_ ?_
    · decide
    · simp only [tt, seval]
    rintro r os ⟨rfl, rfl⟩ hos
    simp only [tt, seval]
    refine CallQ.intro (name_d full table (out ++ [kT 23, kT 24]) (by (try simp only [ll] at *); omega)) ?_ ?_ ?_
    · decide
    · simp only [tt, seval]
    rintro r os ⟨rfl, rfl⟩ hos
    simp only [tt, seval]
    refine CallQ.intro (kVALUES full (out ++ [kT 23, kT 24] ++ [nT table]) (by (try simp only [ll] at *); omega)) ?_ ?_ ?_
    · decide
    · simp only [tt, seval]
    rintro r os ⟨rfl, rfl⟩ hos
    simp only [tt, seval]
    refine fun _ => ?_
    obtain ⟨L1, hL1⟩ : ∃ L1, L1 = out ++ [kT 23, kT 24] ++ [nT table] ++ [kT 25] := ⟨_, rfl⟩
    have hl1 : L1.length = out.length + 4 := by rw [hL1]; simp only [ll]
    rw [← hL1]
    refine dLoop.gh [.ren 10000025 10000039] ⟨by decide, by decide, ?_⟩
    refine dLoop0.intro (fun f L p => ∃ (i : Nat) (es : List Tok), f 29 = vi i ∧ i ≤ rows.length ∧ es = L1 ++ seqN (rowsF g rows) i ∧ L = [(9000, .str [.s 10000039 (es).length, .v (.bool full)]), (10000039, .arr 95 (es).length ((es).flatMap Tok.row) none), (3, .str [.v (.int .i64 2), .v (.bool distinct), .sl items.length (items.flatMap Item.row) none, .sl from_.length (from_.flatMap Source.row) none, .sl where_.length (where_.flatMap Expr.row) none, .sl order.length (order.flatMap SortKey.row) none, .v (.int .i64 limit), .v (.string table), .sl rows.length (rows.flatMap ERow.row) none, .sl cols.length (cols.flatMap srow) none, .sl sets.length (sets.flatMap Expr.row) none, .sl where2.length (where2.flatMap Expr.row) none])] ∧ p = none) (fun f _ _ => (rows.length - ixS (f 29)).toNat) [(9000, .str [.s 10000039 (L1).length, .v (.bool full)]), (10000039, .arr 95 (L1).length ((L1).flatMap Tok.row) none), (3, .str [.v (.int .i64 2), .v (.bool distinct), .sl items.length (items.flatMap Item.row) none, .sl from_.length (from_.flatMap Source.row) none, .sl where_.length (where_.flatMap Expr.row) none, .sl order.length (order.flatMap SortKey.row) none, .v (.int .i64 limit), .v (.string table), .sl rows.length (rows.flatMap ERow.row) none, .sl cols.length (cols.flatMap srow) none, .sl sets.length (sets.flatMap Expr.row) none, .sl where2.length (where2.flatMap Expr.row) none])] none ⟨SubO.cons rfl (SubO.cons rfl (SubO.cons rfl (SubO.nil _))), PoSub.none _, ?_⟩ ?_
    · simp only [tt, seval]
      exact ⟨0, L1, rfl, by omega, (List.append_nil _).symm, rfl⟩
    rintro g' L p ⟨i, es, h29, hi, hes, rfl, rfl⟩
    simp only [tt, seval] at h29
    simp only [tt, seval, h29, Int.ofNat_lt]
    refine And.intro (fun hlt => ?_) (fun hge => ?_)
    · have hst := seqN_succ (rowsF g rows) i
      have hlt2 := seqN_lt (rowsF g rows) hlt
      have hel : es.length = L1.length + (seqN (rowsF g rows) i).length := by rw [hes, List.length_append]
      obtain ⟨it, hit⟩ : ∃ it, it = rows[i] := ⟨_, rfl⟩
      have hx : rows[i]? = some it := by rw [hit]; exact List.getElem?_eq_getElem hlt
      have hmem : it ∈ rows := by rw [hit]; exact List.getElem_mem hlt
      have hss : rowsF g rows i = cmL i ++ rowT g it := by rw [rowsF, atL_get hlt, hit]
      have hil := mem_sz szERow hmem
      rw [szERow_eq, szExprs_eq] at hil
      rw [szERows_eq] at hsr
      have hxe : PrC 104 [.c (.sl it.l.length (it.l.flatMap Expr.row) none)] full (rowT g it) := exprs_d full it.l g (by omega) fun x hx => hgR x (List.mem_flatMap.2 ⟨_, hmem, hx⟩)
      rw [hss] at hlt2
      generalize rowT g it = le at *
      simp only [ll] at hlt2
      have i0 : ((0 : Int) ≤ (i : Int)) = True := eq_true (by omega)
      have iL : ((i : Int) < (rows.length : Int)) = True := eq_true (by omega)
      have iT : (i < rows.length) = True := eq_true hlt
      try simp only [tt, seval, h29, idxAt hx ERow.row_len, i0, iL, iT, erowE]
      refine CallQ.intro (comma_d full i es (by (try simp only [ll] at *); omega)) ?_ ?_ ?_
      · decide
      · simp only [tt, seval, h29, idxAt hx ERow.row_len, i0, iL, iT, erowE]
      rintro r os ⟨rfl, rfl⟩ hos
      simp only [tt, seval, h29, idxAt hx ERow.row_len, i0, iL, iT, erowE]
      refine CallQ.intro (hxe (es ++ cmL i) (by (try simp only [ll] at *); omega)) ?_ ?_ ?_
      · decide
      · simp only [tt, seval, h29, idxAt hx ERow.row_len, i0, iL, iT, erowE]
      rintro r os ⟨rfl, rfl⟩ hos
      simp only [tt, seval, h29, idxAt hx ERow.row_len, i0, iL, iT, erowE]
      try rw [wrap_id (n := (i : Int) + 1) (by omega) (by omega)]
      exact ⟨[(9000, .str [.s 10000039 ((es ++ cmL i ++ le)).length, .v (.bool full)]), (10000039, .arr 95 ((es ++ cmL i ++ le)).length (((es ++ cmL i ++ le)).flatMap Tok.row) none), (3, .str [.v (.int .i64 2), .v (.bool distinct), .sl items.length (items.flatMap Item.row) none, .sl from_.length (from_.flatMap Source.row) none, .sl where_.length (where_.flatMap Expr.row) none, .sl order.length (order.flatMap SortKey.row) none, .v (.int .i64 limit), .v (.string table), .sl rows.length (rows.flatMap ERow.row) none, .sl cols.length (cols.flatMap srow) none, .sl sets.length (sets.flatMap Expr.row) none, .sl where2.length (where2.flatMap Expr.row) none])], none, SubO.cons rfl (SubO.cons rfl (SubO.cons rfl (SubO.nil _))), PoSub.none _, ⟨i + 1, es ++ cmL i ++ le, rfl, by omega, by rw [hst, hes, hss]; simp [List.append_assoc], rfl, rfl⟩, by simp only [ixS]; omega⟩
    have hie : i = rows.length := by omega
    subst hie
    try simp only [tt, seval, h29]
    refine ⟨.tu [], _, ⟨rfl, osE (l := es) (by rw [hes, hL1]; simp [List.append_assoc])⟩, endOk ?_⟩
    simp only [tt, seval]
  · skip
    have e : stTok g (Stmt.mk 3 (Query.mk distinct items from_ where_ order limit) table rows cols sets where2) = kT 26 :: nT table :: kT 27 :: (seqN (setF' g cols sets) cols.length ++ whL g where2) := rfl
    rw [e] at hroom ⊢
    clear e
    try simp only [ll] at hroom
    refine cl_of_d follows_mixed false Tryz.func47 rfl (by kernel_rfl) ?_
    simp only [Tryz.f47, tt, seval]
    refine CallQ.intro (kUPDATE full out (by (try simp only [ll] at *); omega)) ?_ ?_ ?_
    · decide
    · simp only [tt, seval]
    rintro r os ⟨rfl, rfl⟩ hos
    simp only [tt, seval]
    refine CallQ.intro (name_d full table (out ++ [kT 26]) (by (try simp only [ll] at *); omega)) ?_ ?_ ?_
    · decide
    · simp only [tt, seval]
    rintro r os ⟨rfl, rfl⟩ hos
    simp only [tt, seval]
    refine CallQ.intro (kSET full (out ++ [kT 26] ++ [nT table]) (by (try simp only [ll] at *); omega)) ?_ ?_ ?_
    · decide
    · simp only [tt, seval]
    rintro r os ⟨rfl, rfl⟩ hos
    simp only [tt, seval]
    refine fun _ => ?_
    obtain ⟨L1, hL1⟩ : ∃ L1, L1 = out ++ [kT 26] ++ [nT table] ++ [kT 27] := ⟨_, rfl⟩
    have hl1 : L1.length = out.length + 3 := by rw [hL1]; simp only [ll]
    rw [← hL1]
    refine dLoop.gh [.ren 10000050 10000073] ⟨by decide, by decide, ?_⟩
    refine dLoop0.intro (fun f L p => ∃ (i : Nat) (es : List Tok), f 54 = vi i ∧ i ≤ cols.length ∧ es = L1 ++ seqN (setF' g cols sets) i ∧ L = [(9000, .str [.s 10000073 (es).length, .v (.bool full)]), (10000073, .arr 95 (es).length ((es).flatMap Tok.row) none), (3, .str [.v (.int .i64 3), .v (.bool distinct), .sl items.length (items.flatMap Item.row) none, .sl from_.length (from_.flatMap Source.row) none, .sl where_.length (where_.flatMap Expr.row) none, .sl order.length (order.flatMap SortKey.row) none, .v (.int .i64 limit), .v (.string table), .sl rows.length (rows.flatMap ERow.row) none, .sl cols.length (cols.flatMap srow) none, .sl sets.length (sets.flatMap Expr.row) none, .sl where2.length (where2.flatMap Expr.row) none])] ∧ p = none) (fun f _ _ => (cols.length - ixS (f 54)).toNat) [(9000, .str [.s 10000073 (L1).length, .v (.bool full)]), (10000073, .arr 95 (L1).length ((L1).flatMap Tok.row) none), (3, .str [.v (.int .i64 3), .v (.bool distinct), .sl items.length (items.flatMap Item.row) none, .sl from_.length (from_.flatMap Source.row) none, .sl where_.length (where_.flatMap Expr.row) none, .sl order.length (order.flatMap SortKey.row) none, .v (.int .i64 limit), .v (.string table), .sl rows.length (rows.flatMap ERow.row) none, .sl cols.length (cols.flatMap srow) none, .sl sets.length (sets.flatMap Expr.row) none, .sl where2.length (where2.flatMap Expr.row) none])] none ⟨SubO.cons rfl (SubO.cons rfl (SubO.cons rfl (SubO.nil _))), PoSub.none _, ?_⟩ ?_
    · simp only [tt, seval]
      exact ⟨0, L1, rfl, by omega, (List.append_nil _).symm, rfl⟩
    rintro g' L p ⟨i, es, h54, hi, hes, rfl, rfl⟩
    simp only [tt, seval] at h54
    simp only [tt, seval, h54, Int.ofNat_lt]
    refine And.intro (fun hlt => ?_) (fun hge => ?_)
    · have hls : i < sets.length := by omega
      have hst := seqN_succ (setF' g cols sets) i
      have hlt2 := seqN_lt (setF' g cols sets) hlt
      have hel : es.length = L1.length + (seqN (setF' g cols sets) i).length := by rw [hes, List.length_append]
      obtain ⟨c, hc⟩ : ∃ c, c = cols[i] := ⟨_, rfl⟩
      have hxc : cols[i]? = some c := by rw [hc]; exact List.getElem?_eq_getElem hlt
      obtain ⟨e, he⟩ : ∃ e, e = sets[i] := ⟨_, rfl⟩
      have hxs : sets[i]? = some e := by rw [he]; exact List.getElem?_eq_getElem hls
      have hss : setF' g cols sets i = cmL i ++ ([nT c, eqT] ++ g e) := by rw [setF', atL_get hlt, atL_get hls, hc, he]
      rw [hss] at hlt2
      have hxe : PrC 31 [.ag (csOf e.row)] full (g e) := hgT e (by rw [he]; exact List.getElem_mem hls)
      generalize g e = le at *
      simp only [ll] at hlt2
      have i0 : ((0 : Int) ≤ (i : Int)) = True := eq_true (by omega)
      have iC : ((i : Int) < (cols.length : Int)) = True := eq_true (by omega)
      have iT : (i < cols.length) = True := eq_true hlt
      have iS : (i < sets.length) = True := eq_true hls
      have iS2 : ((i : Int) < (sets.length : Int)) = True := eq_true (by omega)
      try simp only [tt, seval, h54, idxAt hxc srow_len, idxAt hxs Expr.row_len, i0, iC, iT, iS, iS2, srow, Expr.tk, Expr.row_len]
      refine CallQ.intro (comma_d full i es (by (try simp only [ll] at *); omega)) ?_ ?_ ?_
      · decide
      · simp only [tt, seval, h54, idxAt hxc srow_len, idxAt hxs Expr.row_len, i0, iC, iT, iS, iS2, srow, Expr.tk, Expr.row_len]
      rintro r os ⟨rfl, rfl⟩ hos
      simp only [tt, seval, h54, idxAt hxc srow_len, idxAt hxs Expr.row_len, i0, iC, iT, iS, iS2, srow, Expr.tk, Expr.row_len]
      refine CallQ.intro (name_d full c (es ++ cmL i) (by (try simp only [ll] at *); omega)) ?_ ?_ ?_
      · decide
      · simp only [tt, seval, h54, idxAt hxc srow_len, idxAt hxs Expr.row_len, i0, iC, iT, iS, iS2, srow, Expr.tk, Expr.row_len]
      rintro r os ⟨rfl, rfl⟩ hos
      simp only [tt, seval, h54, idxAt hxc srow_len, idxAt hxs Expr.row_len, i0, iC, iT, iS, iS2, srow, Expr.tk, Expr.row_len]
      refine CallQ.intro (sign_d full ⟨#[61]⟩ (es ++ cmL i ++ [nT c]) (by (try simp only [ll] at *); omega)) ?_ ?_ ?_
      · decide
      · simp only [tt, seval, h54, idxAt hxc srow_len, idxAt hxs Expr.row_len, i0, iC, iT, iS, iS2, srow, Expr.tk, Expr.row_len]
      rintro r os ⟨rfl, rfl⟩ hos
      simp only [tt, seval, h54, idxAt hxc srow_len, idxAt hxs Expr.row_len, i0, iC, iT, iS, iS2, srow, Expr.tk, Expr.row_len]
      refine CallQ.intro (hxe (es ++ cmL i ++ [nT c] ++ [gT ⟨#[61]⟩]) (by (try simp only [ll] at *); omega)) ?_ ?_ ?_
      · decide
      · simp only [tt, seval, h54, idxAt hxc srow_len, idxAt hxs Expr.row_len, i0, iC, iT, iS, iS2, srow, Expr.tk, Expr.row_len]
      rintro r os ⟨rfl, rfl⟩ hos
      simp only [tt, seval, h54, idxAt hxc srow_len, idxAt hxs Expr.row_len, i0, iC, iT, iS, iS2, srow, Expr.tk, Expr.row_len]
      try rw [wrap_id (n := (i : Int) + 1) (by omega) (by omega)]
      exact ⟨[(9000, .str [.s 10000073 ((es ++ cmL i ++ [nT c] ++ [gT ⟨#[61]⟩] ++ le)).length, .v (.bool full)]), (10000073, .arr 95 ((es ++ cmL i ++ [nT c] ++ [gT ⟨#[61]⟩] ++ le)).length (((es ++ cmL i ++ [nT c] ++ [gT ⟨#[61]⟩] ++ le)).flatMap Tok.row) none), (3, .str [.v (.int .i64 3), .v (.bool distinct), .sl items.length (items.flatMap Item.row) none, .sl from_.length (from_.flatMap Source.row) none, .sl where_.length (where_.flatMap Expr.row) none, .sl order.length (order.flatMap SortKey.row) none, .v (.int .i64 limit), .v (.string table), .sl rows.length (rows.flatMap ERow.row) none, .sl cols.length (cols.flatMap srow) none, .sl sets.length (sets.flatMap Expr.row) none, .sl where2.length (where2.flatMap Expr.row) none])], none, SubO.cons rfl (SubO.cons rfl (SubO.cons rfl (SubO.nil _))), PoSub.none _, ⟨i + 1, es ++ cmL i ++ [nT c] ++ [gT ⟨#[61]⟩] ++ le, rfl, by omega, by rw [hst, hes, hss]; simp [eqT, List.append_assoc], rfl, rfl⟩, by simp only [ixS]; omega⟩
    have hie : i = cols.length := by omega
    subst hie
    have hel : es.length = L1.length + (seqN (setF' g cols sets) cols.length).length := by rw [hes, List.length_append]
    try simp only [tt, seval, h54]
    refine CallQ.intro (where_d full where2 g hwl hgW es (by (try simp only [ll] at *); omega)) ?_ ?_ ?_
    · decide
    · simp only [tt, seval, h54]
    rintro r os ⟨rfl, rfl⟩ hos
    simp only [tt, seval, h54]
    refine ⟨.tu [], _, ⟨rfl, osE (l := es ++ whL g where2) (by rw [hes, hL1]; simp [List.append_assoc])⟩, endOk ?_⟩
    simp only [tt, seval]
  · skip
    have e : stTok g (Stmt.mk 4 (Query.mk distinct items from_ where_ order limit) table rows cols sets where2) = kT 28 :: kT 3 :: nT table :: whL g where2 := rfl
    rw [e] at hroom ⊢
    clear e
    try simp only [ll] at hroom
    refine cl_of_d follows_mixed false Tryz.func47 rfl (by kernel_rfl) ?_
    simp only [Tryz.f47, tt, seval]
    refine CallQ.intro (kDELETEFROM full out (by (try simp only [ll] at *); omega)) ?_ ?_ ?_
    · decide
    · simp only [tt, seval]
    rintro r os ⟨rfl, rfl⟩ hos
    simp only [tt, seval]
    refine CallQ.intro (name_d full table (out ++ [kT 28, kT 3]) (by (try simp only [ll] at *); omega)) ?_ ?_ ?_
    · decide
    · simp only [tt, seval]
    rintro r os ⟨rfl, rfl⟩ hos
    simp only [tt, seval]
    refine CallQ.intro (where_d full where2 g hwl hgW (out ++ [kT 28, kT 3] ++ [nT table]) (by (try simp only [ll] at *); omega)) ?_ ?_ ?_
    · decide
    · simp only [tt, seval]
    rintro r os ⟨rfl, rfl⟩ hos
    simp only [tt, seval]
    refine ⟨.tu [], _, ⟨rfl, osE (l := out ++ [kT 28, kT 3] ++ [nT table] ++ whL g where2) (by simp)⟩, endOk ?_⟩
    simp only [tt, seval]
noncomputable def stToks (s : Stmt) : List Tok := if stOk s = true then stTok (tkE false) s else []
noncomputable def stFull (s : Stmt) : ByteArray := if stOk s = true then spacedB (stTok (tkE true) s) else ⟨#[]⟩
theorem st_small (full : Bool) (s : Stmt) (hr : RgS s) (h : stOk s = true) : (stTok (tkE full) s).length ≤ 1000000 ∧ (∀ t ∈ stTok (tkE full) s, t.text.size ≤ 1048576) ∧ (joinL (stTok (tkE full) s) (stTok (tkE full) s).length).length ≤ 50000000 := by
  have hs := st_sm full h hr
  exact ⟨Nat.le_trans hs.1 (by decide), fun t ht => Nat.le_trans (hs.2 t ht) (by decide), join_len hs (by decide)⟩
theorem stToks_small (s : Stmt) (hr : RgS s) : (∀ t ∈ stToks s, t.text.size ≤ 1048576) ∧ (joinL (stToks s) (stToks s).length).length ≤ 50000000 := by
  unfold stToks
  split
  · rename_i h
    exact (st_small false s hr h).2
  · exact ⟨fun t h => (by cases h), (by decide)⟩
theorem StmtFull_d (s : Stmt) (hr : RgS s) (hsz : szStmt s ≤ 1048576) : Cl Tryz.prog 15 [.ag (csOf s.row)] [] fun r _ => r = vs (stFull s) := by
  have c1 := StmtOk_d s hsz
  have ht := st_small true s hr
  have he := l11Stmt_d true s
  unfold stFull
  generalize stTok (tkE true) s = l at *
  cases hb : stOk s
  case false =>
    rw [hb] at c1
    obtain ⟨kind, ⟨distinct, items, from_, where_, order, limit⟩, table, rows, cols, sets, where2⟩ := s
    rw [Stmt.row_mk, Query.row_mk] at c1 ⊢
    simp only [List.cons_append, List.nil_append] at c1 ⊢
    refine cl_of_d follows_mixed false Tryz.func15 rfl (by kernel_rfl) ?_
    simp only [Tryz.f15, tt, seval]
    refine call0 (c1) ?_ ?_ ?_
    · decide
    · simp only [tt, seval]
    rintro r rfl
    simp only [tt, seval]
    exact ⟨_, _, rfl, end0 rfl⟩
  case true =>
    rw [hb] at c1
    obtain ⟨h1, h2, h3⟩ := ht hb
    have sp := Spaced_d l h2 h3
    have he : Cl Tryz.prog 42 [.ag (csOf s.row), vb true] [] fun r _ => r = .c (.ow 95 (l).length ((l).flatMap Tok.row) none) := he hb hr hsz
    obtain ⟨kind, ⟨distinct, items, from_, where_, order, limit⟩, table, rows, cols, sets, where2⟩ := s
    rw [Stmt.row_mk, Query.row_mk] at c1 he ⊢
    simp only [List.cons_append, List.nil_append] at c1 he ⊢
    refine cl_of_d follows_mixed false Tryz.func15 rfl (by kernel_rfl) ?_
    simp only [Tryz.f15, tt, seval]
    refine call0 (c1) ?_ ?_ ?_
    · decide
    · simp only [tt, seval]
    rintro r rfl
    simp only [tt, seval]
    refine call0 (he) ?_ ?_ ?_
    · decide
    · simp only [tt, seval]
    rintro r rfl
    simp only [tt, seval]
    refine call0 (sp) ?_ ?_ ?_
    · decide
    · simp only [tt, seval]
    rintro r rfl
    simp only [tt, seval]
    exact ⟨_, _, rfl, end0 rfl⟩
theorem iStmtFull_d (s : Stmt) (hr : RgS s) (hsz : szStmt s ≤ 1048576) : Cl Tryz.prog 17 [.ag (csOf s.row)] [] fun r _ => r = vs (stFull s) := by
  have c1 := iStmtOk_d s hsz
  have ht := st_small true s hr
  have he := stmt_d true s
  unfold stFull
  generalize stTok (tkE true) s = l at *
  cases hb : stOk s
  case false =>
    rw [hb] at c1
    obtain ⟨kind, ⟨distinct, items, from_, where_, order, limit⟩, table, rows, cols, sets, where2⟩ := s
    rw [Stmt.row_mk, Query.row_mk] at c1 ⊢
    simp only [List.cons_append, List.nil_append] at c1 ⊢
    refine cl_of_d follows_mixed false Tryz.func17 rfl (by kernel_rfl) ?_
    simp only [Tryz.f17, tt, seval]
    refine call0 (c1) ?_ ?_ ?_
    · decide
    · simp only [tt, seval]
    rintro r rfl
    simp only [tt, seval]
    exact ⟨_, _, rfl, end0 rfl⟩
  case true =>
    rw [hb] at c1
    obtain ⟨h1, h2, h3⟩ := ht hb
    have sp := iSpaced_d l h2 h3
    have he : PrC 47 [.ag (csOf s.row)] true (l) := he hb hr hsz
    obtain ⟨kind, ⟨distinct, items, from_, where_, order, limit⟩, table, rows, cols, sets, where2⟩ := s
    rw [Stmt.row_mk, Query.row_mk] at c1 he ⊢
    simp only [List.cons_append, List.nil_append] at c1 he ⊢
    refine cl_of_d follows_mixed false Tryz.func17 rfl (by kernel_rfl) ?_
    simp only [Tryz.f17, tt, seval]
    refine call0 (c1) ?_ ?_ ?_
    · decide
    · simp only [tt, seval]
    rintro r rfl
    simp only [tt, seval]
    refine CallQ.intro (he [] (by simp only [List.length_nil]; omega)) ?_ ?_ ?_
    · decide
    · simp only [tt, seval, List.flatMap_nil, List.length_nil]
    rintro r os ⟨rfl, rfl⟩ hos
    simp only [tt, seval, List.flatMap_nil, List.length_nil]
    refine call0 (sp) ?_ ?_ ?_
    · decide
    · simp only [tt, seval]
    rintro r rfl
    simp only [tt, seval]
    exact ⟨_, _, rfl, end0 rfl⟩
theorem StmtTokens_d (s : Stmt) (hr : RgS s) (hsz : szStmt s ≤ 1048576) : Cl Tryz.prog 51 [.ag (csOf s.row)] [] fun r _ => r = .c (.sl (stToks s).length ((stToks s).flatMap Tok.row) none) := by
  have c1 := StmtOk_d s hsz
  have ht := st_small false s hr
  have he := l11Stmt_d false s
  unfold stToks
  generalize stTok (tkE false) s = l at *
  cases hb : stOk s
  case false =>
    rw [hb] at c1
    obtain ⟨kind, ⟨distinct, items, from_, where_, order, limit⟩, table, rows, cols, sets, where2⟩ := s
    rw [Stmt.row_mk, Query.row_mk] at c1 ⊢
    simp only [List.cons_append, List.nil_append] at c1 ⊢
    refine cl_of_d follows_mixed false Tryz.func51 rfl (by kernel_rfl) ?_
    simp only [Tryz.f51, tt, seval]
    refine call0 (c1) ?_ ?_ ?_
    · decide
    · simp only [tt, seval]
    rintro r rfl
    simp only [tt, seval]
    refine ⟨_, [], rfl, endOk ?_⟩
    simp only [tt, seval, Bool.false_eq_true, if_false, List.length_nil, List.flatMap_nil]
  case true =>
    rw [hb] at c1
    obtain ⟨h1, h2, h3⟩ := ht hb
    have he : Cl Tryz.prog 42 [.ag (csOf s.row), vb false] [] fun r _ => r = .c (.ow 95 (l).length ((l).flatMap Tok.row) none) := he hb hr hsz
    obtain ⟨kind, ⟨distinct, items, from_, where_, order, limit⟩, table, rows, cols, sets, where2⟩ := s
    rw [Stmt.row_mk, Query.row_mk] at c1 he ⊢
    simp only [List.cons_append, List.nil_append] at c1 he ⊢
    refine cl_of_d follows_mixed false Tryz.func51 rfl (by kernel_rfl) ?_
    simp only [Tryz.f51, tt, seval]
    refine call0 (c1) ?_ ?_ ?_
    · decide
    · simp only [tt, seval]
    rintro r rfl
    simp only [tt, seval]
    refine call0 (he) ?_ ?_ ?_
    · decide
    · simp only [tt, seval]
    rintro r rfl
    simp only [tt, seval]
    refine ⟨_, [], rfl, endOk ?_⟩
    simp only [tt, seval, if_true]
theorem iStmtTokens_d (s : Stmt) (hr : RgS s) (hsz : szStmt s ≤ 1048576) : Cl Tryz.prog 52 [.ag (csOf s.row)] [] fun r _ => r = .c (.sl (stToks s).length ((stToks s).flatMap Tok.row) none) := by
  have c1 := iStmtOk_d s hsz
  have ht := st_small false s hr
  have he := stmt_d false s
  unfold stToks
  generalize stTok (tkE false) s = l at *
  cases hb : stOk s
  case false =>
    rw [hb] at c1
    obtain ⟨kind, ⟨distinct, items, from_, where_, order, limit⟩, table, rows, cols, sets, where2⟩ := s
    rw [Stmt.row_mk, Query.row_mk] at c1 ⊢
    simp only [List.cons_append, List.nil_append] at c1 ⊢
    refine cl_of_d follows_mixed false Tryz.func52 rfl (by kernel_rfl) ?_
    simp only [Tryz.f52, tt, seval]
    refine call0 (c1) ?_ ?_ ?_
    · decide
    · simp only [tt, seval]
    rintro r rfl
    simp only [tt, seval]
    refine ⟨_, [], rfl, endOk ?_⟩
    simp only [tt, seval, Bool.false_eq_true, if_false, List.length_nil, List.flatMap_nil]
  case true =>
    rw [hb] at c1
    obtain ⟨h1, h2, h3⟩ := ht hb
    have he : PrC 47 [.ag (csOf s.row)] false (l) := he hb hr hsz
    obtain ⟨kind, ⟨distinct, items, from_, where_, order, limit⟩, table, rows, cols, sets, where2⟩ := s
    rw [Stmt.row_mk, Query.row_mk] at c1 he ⊢
    simp only [List.cons_append, List.nil_append] at c1 he ⊢
    refine cl_of_d follows_mixed false Tryz.func52 rfl (by kernel_rfl) ?_
    simp only [Tryz.f52, tt, seval]
    refine call0 (c1) ?_ ?_ ?_
    · decide
    · simp only [tt, seval]
    rintro r rfl
    simp only [tt, seval]
    refine CallQ.intro (he [] (by simp only [List.length_nil]; omega)) ?_ ?_ ?_
    · decide
    · simp only [tt, seval, List.flatMap_nil, List.length_nil]
    rintro r os ⟨rfl, rfl⟩ hos
    simp only [tt, seval, List.flatMap_nil, List.length_nil]
    refine ⟨_, [], rfl, endOk ?_⟩
    simp only [tt, seval, if_true]
theorem StmtText_d (s : Stmt) (hr : RgS s) (hsz : szStmt s ≤ 1048576) : Cl Tryz.prog 19 [.ag (csOf s.row)] [] fun r _ => r = vs (spacedB (stToks s)) := by
  have c1 := StmtTokens_d s hr hsz
  have sp := Spaced_d (stToks s) (stToks_small s hr).1 (stToks_small s hr).2
  generalize stToks s = l at *
  obtain ⟨kind, ⟨distinct, items, from_, where_, order, limit⟩, table, rows, cols, sets, where2⟩ := s
  rw [Stmt.row_mk, Query.row_mk] at c1 ⊢
  simp only [List.cons_append, List.nil_append] at c1 ⊢
  refine cl_of_d follows_mixed false Tryz.func19 rfl (by kernel_rfl) ?_
  simp only [Tryz.f19, tt, seval]
  refine call0 (c1) ?_ ?_ ?_
  · decide
  · simp only [tt, seval]
  rintro r rfl
  simp only [tt, seval]
  refine call0 (sp) ?_ ?_ ?_
  · decide
  · simp only [tt, seval]
  rintro r rfl
  simp only [tt, seval]
  exact ⟨_, _, rfl, end0 rfl⟩
theorem iStmtText_d (s : Stmt) (hr : RgS s) (hsz : szStmt s ≤ 1048576) : Cl Tryz.prog 20 [.ag (csOf s.row)] [] fun r _ => r = vs (spacedB (stToks s)) := by
  have c1 := iStmtTokens_d s hr hsz
  have sp := iSpaced_d (stToks s) (stToks_small s hr).1 (stToks_small s hr).2
  generalize stToks s = l at *
  obtain ⟨kind, ⟨distinct, items, from_, where_, order, limit⟩, table, rows, cols, sets, where2⟩ := s
  rw [Stmt.row_mk, Query.row_mk] at c1 ⊢
  simp only [List.cons_append, List.nil_append] at c1 ⊢
  refine cl_of_d follows_mixed false Tryz.func20 rfl (by kernel_rfl) ?_
  simp only [Tryz.f20, tt, seval]
  refine call0 (c1) ?_ ?_ ?_
  · decide
  · simp only [tt, seval]
  rintro r rfl
  simp only [tt, seval]
  refine call0 (sp) ?_ ?_ ?_
  · decide
  · simp only [tt, seval]
  rintro r rfl
  simp only [tt, seval]
  exact ⟨_, _, rfl, end0 rfl⟩
theorem lawStFull_d (s : Stmt) (hr : RgS s) : Cl Tryz.prog 5 [.ag (csOf s.row)] [] fun r _ => r = vb true := by
  have z1 : ∀ l : Int, 0 ≤ l → l ≤ 1048576 → Cl Tryz.prog 14 [.ag (csOf s.row), vi l] [] fun r _ => r = vi (subL l (szStmt s)) := by
    obtain ⟨kind, q, table, rows, cols, sets, where2⟩ := s
    exact fun l h0 h1 => szStmt_step kind q table rows cols sets where2 l h0 h1
  have z1 := z1 1048576 (by omega) (by omega)
  have z2 : szStmt s ≤ 1048576 → Cl Tryz.prog 16 [.ag (csOf s.row)] [] fun r _ => r = .ag (csOf s.row) := by
    obtain ⟨kind, q, table, rows, cols, sets, where2⟩ := s
    exact toStmt_step kind q table rows cols sets where2
  have z3 := StmtFull_d s hr
  have z4 := iStmtFull_d s hr
  have z5 : Cl Tryz.prog 18 [.ag (csOf s.row), .ag (csOf s.row)] [] fun r _ => r = vb true := by
    obtain ⟨kind, q, table, rows, cols, sets, where2⟩ := s
    exact eqStmt_step kind q table rows cols sets where2
  generalize stFull s = tx at *
  generalize szStmt s = sz at *
  obtain ⟨kind, ⟨distinct, items, from_, where_, order, limit⟩, table, rows, cols, sets, where2⟩ := s
  rw [Stmt.row_mk, Query.row_mk] at z1 z2 z3 z4 z5 ⊢
  simp only [List.cons_append, List.nil_append] at z1 z2 z3 z4 z5 ⊢
  refine cl_of_d follows_mixed false Tryz.func5 rfl (by kernel_rfl) ?_
  simp only [Tryz.f5, tt, seval]
  refine call0 (z1) ?_ ?_ ?_
  · decide
  · simp only [tt, seval]
  rintro r rfl
  simp only [tt, seval]
  refine And.intro (fun hneg => ?_) (fun hpos => ?_)
  · exact ⟨_, _, rfl, end0 rfl⟩
  · have hsz : sz ≤ 1048576 := by
      unfold subL at hpos
      split at hpos
      · omega
      · exact absurd (by decide) hpos
    try simp only [tt, seval]
    refine call0 (z2 hsz) ?_ ?_ ?_
    · decide
    · simp only [tt, seval]
    rintro r rfl
    simp only [tt, seval]
    refine call0 (z3 hsz) ?_ ?_ ?_
    · decide
    · simp only [tt, seval]
    rintro r rfl
    simp only [tt, seval]
    refine call0 (z2 hsz) ?_ ?_ ?_
    · decide
    · simp only [tt, seval]
    rintro r rfl
    simp only [tt, seval]
    refine call0 (z4 hsz) ?_ ?_ ?_
    · decide
    · simp only [tt, seval]
    rintro r rfl
    simp only [tt, seval]
    try simp only [tt, seval]
    refine dDrawn.intro [] (pln [0, 2, 5, 7, 8]) (by kernel_rfl) ?_
    simp only [tt, seval]
    refine call0 (z2 hsz) ?_ ?_ ?_
    · decide
    · simp only [tt, seval]
    rintro r rfl
    simp only [tt, seval]
    refine call0 (z5) ?_ ?_ ?_
    · decide
    · simp only [tt, seval]
    rintro r rfl
    simp only [tt, seval]
    exact ⟨_, _, rfl, end0 rfl⟩
theorem lawStText_d (s : Stmt) (hr : RgS s) : Cl Tryz.prog 6 [.ag (csOf s.row)] [] fun r _ => r = vb true := by
  have z1 : ∀ l : Int, 0 ≤ l → l ≤ 1048576 → Cl Tryz.prog 14 [.ag (csOf s.row), vi l] [] fun r _ => r = vi (subL l (szStmt s)) := by
    obtain ⟨kind, q, table, rows, cols, sets, where2⟩ := s
    exact fun l h0 h1 => szStmt_step kind q table rows cols sets where2 l h0 h1
  have z1 := z1 1048576 (by omega) (by omega)
  have z2 : szStmt s ≤ 1048576 → Cl Tryz.prog 16 [.ag (csOf s.row)] [] fun r _ => r = .ag (csOf s.row) := by
    obtain ⟨kind, q, table, rows, cols, sets, where2⟩ := s
    exact toStmt_step kind q table rows cols sets where2
  have z3 := StmtText_d s hr
  have z4 := iStmtText_d s hr
  have z5 : Cl Tryz.prog 18 [.ag (csOf s.row), .ag (csOf s.row)] [] fun r _ => r = vb true := by
    obtain ⟨kind, q, table, rows, cols, sets, where2⟩ := s
    exact eqStmt_step kind q table rows cols sets where2
  generalize spacedB (stToks s) = tx at *
  generalize szStmt s = sz at *
  obtain ⟨kind, ⟨distinct, items, from_, where_, order, limit⟩, table, rows, cols, sets, where2⟩ := s
  rw [Stmt.row_mk, Query.row_mk] at z1 z2 z3 z4 z5 ⊢
  simp only [List.cons_append, List.nil_append] at z1 z2 z3 z4 z5 ⊢
  refine cl_of_d follows_mixed false Tryz.func6 rfl (by kernel_rfl) ?_
  simp only [Tryz.f6, tt, seval]
  refine call0 (z1) ?_ ?_ ?_
  · decide
  · simp only [tt, seval]
  rintro r rfl
  simp only [tt, seval]
  refine And.intro (fun hneg => ?_) (fun hpos => ?_)
  · exact ⟨_, _, rfl, end0 rfl⟩
  · have hsz : sz ≤ 1048576 := by
      unfold subL at hpos
      split at hpos
      · omega
      · exact absurd (by decide) hpos
    try simp only [tt, seval]
    refine call0 (z2 hsz) ?_ ?_ ?_
    · decide
    · simp only [tt, seval]
    rintro r rfl
    simp only [tt, seval]
    refine call0 (z3 hsz) ?_ ?_ ?_
    · decide
    · simp only [tt, seval]
    rintro r rfl
    simp only [tt, seval]
    refine call0 (z2 hsz) ?_ ?_ ?_
    · decide
    · simp only [tt, seval]
    rintro r rfl
    simp only [tt, seval]
    refine call0 (z4 hsz) ?_ ?_ ?_
    · decide
    · simp only [tt, seval]
    rintro r rfl
    simp only [tt, seval]
    try simp only [tt, seval]
    refine dDrawn.intro [] (pln [0, 2, 5, 7, 8]) (by kernel_rfl) ?_
    simp only [tt, seval]
    refine call0 (z2 hsz) ?_ ?_ ?_
    · decide
    · simp only [tt, seval]
    rintro r rfl
    simp only [tt, seval]
    refine call0 (z5) ?_ ?_ ?_
    · decide
    · simp only [tt, seval]
    rintro r rfl
    simp only [tt, seval]
    exact ⟨_, _, rfl, end0 rfl⟩
end Go.Proofs.YtfdcibofiibppaaGreatDoor
set_option maxRecDepth 8000
namespace Go.Proofs.YtfdcibofiibppaaGreatDoor
open Go Go.Dv
open Go.Vc (D shrI xorI andI and255)
open Go.Vc (D CellF ValsF read_slice list_cons list_one)
section
variable {W : World}
theorem vf_nil : ValsF W [] [] [] := rfl
theorem vf_lit {v : Value} {ds : List D} {vs : List Value} {F : List Nat} (h : ∃ G, CellF W (.lit v) v G ∧ G = []) (k : ValsF W ds vs F) : ValsF W (.lit v :: ds) (v :: vs) F := by
  obtain ⟨G, h, rfl⟩ := h
  exact ⟨[], F, h, k, rfl⟩
theorem vf_sl {n : Nat} {d : List D} {v : Value} {G : List Nat} {ds : List D} {vs : List Value} {F : List Nat} (h : CellF W (.sl n d) v G) (k : ValsF W ds vs F) : ValsF W (.sl n d :: ds) (v :: vs) (G ++ F) := ⟨G, F, h, k, rfl⟩
theorem vf_app : ∀ {a : List D} {u : List Value} {b : List D} {v : List Value} {F G : List Nat}, ValsF W a u F → ValsF W b v G → ValsF W (a ++ b) (u ++ v) (F ++ G)
  | [], [], b, v, F, G, h, k => by cases (show F = [] from h); exact k
  | d :: a, x :: u, b, v, F, G, ⟨F1, F2, h1, h2, h3⟩, k => by subst h3; exact ⟨F1, F2 ++ G, h1, vf_app h2 k, by rw [List.append_assoc]⟩
  | [], _ :: _, _, _, _, _, h, _ => h.elim
  | _ :: _, [], _, _, _, _, h, _ => h.elim
theorem cell_sub {α : Type} {R : α → Prop} {row : α → List D} {ys : List {x : α // R x}} {v : Value} {F : List Nat} (h : CellF W (.sl ys.length (ys.flatMap fun y => row y.1)) v F) : CellF W (.sl (ys.map Subtype.val).length ((ys.map Subtype.val).flatMap row)) v F := by
  rw [List.length_map, List.flatMap_map]; exact h
theorem sub_mem {α : Type} {R : α → Prop} {ys : List {x : α // R x}} : ∀ x ∈ ys.map Subtype.val, R x := fun x hx => by
  obtain ⟨y, _, rfl⟩ := List.mem_map.1 hx
  exact y.2
theorem wf64 {n : Int} (h : (Lit.int .i64 n).wf = true) : -9223372036854775808 ≤ n ∧ n ≤ 9223372036854775807 := by
  simp [Lit.wf, IntKind.min, IntKind.max, IntKind.bits, IntKind.signed] at h
  omega
end
section
variable {H : Type} {enc : TypeId × Value → H} {W : World} {base : Nat} {sp : Nat → Bool} {held : Bool}
theorem cells24 : Tryz.prog.cellsOf 24 = 1 := by kernel_rfl
theorem cells38 : Tryz.prog.cellsOf 38 = 1 := by kernel_rfl
theorem cells25 : Tryz.prog.cellsOf 25 = 1 := by kernel_rfl
theorem cells40 : Tryz.prog.cellsOf 40 = 1 := by kernel_rfl
theorem cells39 : Tryz.prog.cellsOf 39 = 1 := by kernel_rfl
theorem cells4 : Tryz.prog.cellsOf 4 = 1 := by kernel_rfl
theorem cells3 : Tryz.prog.cellsOf 3 = 1 := by kernel_rfl
theorem cells27 : Tryz.prog.cellsOf 27 = 10 := by kernel_rfl
theorem cells164 : Tryz.prog.cellsOf 164 = 13 := by kernel_rfl
theorem cells42 : Tryz.prog.cellsOf 42 = 6 := by kernel_rfl
theorem cells170 : Tryz.prog.cellsOf 170 = 11 := by kernel_rfl
theorem cells167 : Tryz.prog.cellsOf 167 = 3 := by kernel_rfl
theorem cells23 : Tryz.prog.cellsOf 23 = 3 := by kernel_rfl
theorem cells9 : Tryz.prog.cellsOf 9 = 1 := by kernel_rfl
def RExpr (e : Expr) : Prop := Rg e
def RItem (x : Item) : Prop := Rg x.e
def RSource (x : Source) : Prop := ∀ e ∈ x.on, Rg e
def RSortKey (x : SortKey) : Prop := Rg x.e
def RQuery (q : Query) : Prop := RgQ q
theorem read_val {n : Nat} {cs : List Value} {x : DataW H × List MemPlace} (h : DataW.trod enc Tryz.prog W base sp held n 23 cs = some x) : ∃ (y : Val), cs = [.int .i64 y.kind, .int .i64 y.num, .string y.text] ∧ y.text.size ≤ maxLen ∧ -9223372036854775808 ≤ y.num ∧ y.num ≤ 9223372036854775807 := by
  obtain ⟨xs, k, hk, _, hl, hlen, hf⟩ := DataW.trod_struct Tryz.underlying23 h
  rw [cells23] at hl
  obtain ⟨c0, r0, rfl, hl1⟩ := list_cons hl
  obtain ⟨c1, r1, rfl, hl2⟩ := list_cons hl1
  obtain ⟨c2, rfl⟩ := list_one hl2
  obtain ⟨x0, s0, rfl, hlen1⟩ := list_cons hlen
  obtain ⟨x1, s1, rfl, hlen2⟩ := list_cons hlen1
  obtain ⟨x2, rfl⟩ := list_one hlen2
  have h0 : DataW.trod enc Tryz.prog W base sp held k 3 (([c0, c1, c2].drop 0).take (Tryz.prog.cellsOf 3)) = some x0 := hf 0 _ rfl
  rw [cells3] at h0
  have h0 : DataW.trod enc Tryz.prog W base sp held k 3 [c0] = some x0 := h0
  have h1 : DataW.trod enc Tryz.prog W base sp held k 3 (([c0, c1, c2].drop 1).take (Tryz.prog.cellsOf 3)) = some x1 := hf 1 _ rfl
  rw [cells3] at h1
  have h1 : DataW.trod enc Tryz.prog W base sp held k 3 [c1] = some x1 := h1
  have h2 : DataW.trod enc Tryz.prog W base sp held k 9 (([c0, c1, c2].drop 2).take (Tryz.prog.cellsOf 9)) = some x2 := hf 2 _ rfl
  rw [cells9] at h2
  have h2 : DataW.trod enc Tryz.prog W base sp held k 9 [c2] = some x2 := h2
  obtain ⟨n0, e0, _, w0⟩ := DataW.trod_int Tryz.underlying3 h0
  obtain ⟨n1, e1, _, w1⟩ := DataW.trod_int Tryz.underlying3 h1
  obtain ⟨n2, e2, _, b2⟩ := DataW.trod_string Tryz.underlying9 h2
  simp only [List.cons.injEq, and_true] at e0 e1 e2
  subst e0 e1 e2
  exact ⟨⟨n0, n1, n2⟩, rfl, b2, wf64 w1⟩
theorem read_text {n : Nat} {cs : List Value} {x : DataW H × List MemPlace} (h : DataW.trod enc Tryz.prog W base sp held n 9 cs = some x) : ∃ (y : ByteArray) (F : List Nat), ValsF W (srow y) cs F := by
  obtain ⟨n0, rfl, _, hb⟩ := DataW.trod_string Tryz.underlying9 h
  exact ⟨n0, [], vf_lit ⟨_, ⟨rfl, rfl, hb⟩, rfl⟩ vf_nil⟩
theorem read_trees (n : Nat) : (∀ cs x, DataW.trod enc Tryz.prog W base sp held n 27 cs = some x → ∃ (e : {x : Expr // RExpr x}) (F : List Nat), ValsF W e.1.row cs F) ∧ (∀ cs x, DataW.trod enc Tryz.prog W base sp held n 164 cs = some x → ∃ (e : {x : Item // RItem x}) (F : List Nat), ValsF W e.1.row cs F) ∧ (∀ cs x, DataW.trod enc Tryz.prog W base sp held n 167 cs = some x → ∃ (e : {x : Source // RSource x}) (F : List Nat), ValsF W e.1.row cs F) ∧ (∀ cs x, DataW.trod enc Tryz.prog W base sp held n 170 cs = some x → ∃ (e : {x : SortKey // RSortKey x}) (F : List Nat), ValsF W e.1.row cs F) ∧ (∀ cs x, DataW.trod enc Tryz.prog W base sp held n 42 cs = some x → ∃ (e : {x : Query // RQuery x}) (F : List Nat), ValsF W e.1.row cs F) := by
  induction n using Nat.strongRecOn with
  | _ n ih =>
  refine ⟨fun cs x h => ?_, fun cs x h => ?_, fun cs x h => ?_, fun cs x h => ?_, fun cs x h => ?_⟩
  · skip
    obtain ⟨xs, k, hk, _, hl, hlen, hf⟩ := DataW.trod_struct Tryz.underlying27 h
    rw [cells27] at hl
    obtain ⟨c0, r0, rfl, hl1⟩ := list_cons hl
    obtain ⟨c1, r1, rfl, hl2⟩ := list_cons hl1
    obtain ⟨c2, r2, rfl, hl3⟩ := list_cons hl2
    obtain ⟨c3, r3, rfl, hl4⟩ := list_cons hl3
    obtain ⟨c4, r4, rfl, hl5⟩ := list_cons hl4
    obtain ⟨c5, r5, rfl, hl6⟩ := list_cons hl5
    obtain ⟨c6, r6, rfl, hl7⟩ := list_cons hl6
    obtain ⟨c7, r7, rfl, hl8⟩ := list_cons hl7
    obtain ⟨c8, r8, rfl, hl9⟩ := list_cons hl8
    obtain ⟨c9, rfl⟩ := list_one hl9
    obtain ⟨x0, s0, rfl, hlen1⟩ := list_cons hlen
    obtain ⟨x1, s1, rfl, hlen2⟩ := list_cons hlen1
    obtain ⟨x2, s2, rfl, hlen3⟩ := list_cons hlen2
    obtain ⟨x3, s3, rfl, hlen4⟩ := list_cons hlen3
    obtain ⟨x4, s4, rfl, hlen5⟩ := list_cons hlen4
    obtain ⟨x5, s5, rfl, hlen6⟩ := list_cons hlen5
    obtain ⟨x6, s6, rfl, hlen7⟩ := list_cons hlen6
    obtain ⟨x7, rfl⟩ := list_one hlen7
    have h0 : DataW.trod enc Tryz.prog W base sp held k 3 (([c0, c1, c2, c3, c4, c5, c6, c7, c8, c9].drop 0).take (Tryz.prog.cellsOf 3)) = some x0 := hf 0 _ rfl
    rw [cells3] at h0
    have h0 : DataW.trod enc Tryz.prog W base sp held k 3 [c0] = some x0 := h0
    have h1 : DataW.trod enc Tryz.prog W base sp held k 3 (([c0, c1, c2, c3, c4, c5, c6, c7, c8, c9].drop 1).take (Tryz.prog.cellsOf 3)) = some x1 := hf 1 _ rfl
    rw [cells3] at h1
    have h1 : DataW.trod enc Tryz.prog W base sp held k 3 [c1] = some x1 := h1
    have h2 : DataW.trod enc Tryz.prog W base sp held k 4 (([c0, c1, c2, c3, c4, c5, c6, c7, c8, c9].drop 2).take (Tryz.prog.cellsOf 4)) = some x2 := hf 2 _ rfl
    rw [cells4] at h2
    have h2 : DataW.trod enc Tryz.prog W base sp held k 4 [c2] = some x2 := h2
    have h3 : DataW.trod enc Tryz.prog W base sp held k 23 (([c0, c1, c2, c3, c4, c5, c6, c7, c8, c9].drop 3).take (Tryz.prog.cellsOf 23)) = some x3 := hf 3 _ rfl
    rw [cells23] at h3
    have h3 : DataW.trod enc Tryz.prog W base sp held k 23 [c3, c4, c5] = some x3 := h3
    have h4 : DataW.trod enc Tryz.prog W base sp held k 9 (([c0, c1, c2, c3, c4, c5, c6, c7, c8, c9].drop 6).take (Tryz.prog.cellsOf 9)) = some x4 := hf 4 _ rfl
    rw [cells9] at h4
    have h4 : DataW.trod enc Tryz.prog W base sp held k 9 [c6] = some x4 := h4
    have h5 : DataW.trod enc Tryz.prog W base sp held k 9 (([c0, c1, c2, c3, c4, c5, c6, c7, c8, c9].drop 7).take (Tryz.prog.cellsOf 9)) = some x5 := hf 5 _ rfl
    rw [cells9] at h5
    have h5 : DataW.trod enc Tryz.prog W base sp held k 9 [c7] = some x5 := h5
    have h6 : DataW.trod enc Tryz.prog W base sp held k 24 (([c0, c1, c2, c3, c4, c5, c6, c7, c8, c9].drop 8).take (Tryz.prog.cellsOf 24)) = some x6 := hf 6 _ rfl
    rw [cells24] at h6
    have h6 : DataW.trod enc Tryz.prog W base sp held k 24 [c8] = some x6 := h6
    have h7 : DataW.trod enc Tryz.prog W base sp held k 25 (([c0, c1, c2, c3, c4, c5, c6, c7, c8, c9].drop 9).take (Tryz.prog.cellsOf 25)) = some x7 := hf 7 _ rfl
    rw [cells25] at h7
    have h7 : DataW.trod enc Tryz.prog W base sp held k 25 [c9] = some x7 := h7
    obtain ⟨n0, e0, _, w0⟩ := DataW.trod_int Tryz.underlying3 h0
    obtain ⟨n1, e1, _, w1⟩ := DataW.trod_int Tryz.underlying3 h1
    obtain ⟨n2, e2, _⟩ := DataW.trod_bool Tryz.underlying4 h2
    obtain ⟨n3, e3, b3, w3⟩ := read_val h3
    obtain ⟨n4, e4, _, b4⟩ := DataW.trod_string Tryz.underlying9 h4
    obtain ⟨n5, e5, _, b5⟩ := DataW.trod_string Tryz.underlying9 h5
    obtain ⟨n6, v6, F6, e6, q6⟩ := read_slice (row := fun y : {x : Expr // RExpr x} => y.1.row) Tryz.underlying24 cells27 (by decide) (fun y => Expr.row_len y.1) (fun n' cs' x' hn h' => (ih n' (by omega)).1 _ _ h') h6
    obtain ⟨n7, v7, F7, e7, q7⟩ := read_slice (row := fun y : {x : Query // RQuery x} => y.1.row) Tryz.underlying25 cells42 (by decide) (fun y => Query.row_len y.1) (fun n' cs' x' hn h' => (ih n' (by omega)).2.2.2.2 _ _ h') h7
    simp only [List.cons.injEq, and_true] at e0 e1 e2 e3 e4 e5 e6 e7
    obtain ⟨e3, e3', e3''⟩ := e3
    subst e0 e1 e2 e3 e3' e3'' e4 e5 e6 e7
    refine ⟨⟨Expr.mk n0 n1 n2 n3 n4 n5 (n6.map Subtype.val) (n7.map Subtype.val), Rg.mk ⟨w3.1, w3.2⟩ sub_mem (fun q hq => (sub_mem q hq).1) (fun q hq => (sub_mem q hq).2)⟩, (F6 ++ (F7 ++ [])), ?_⟩
    rw [Expr.row_mk]
    exact (vf_lit ⟨_, ⟨rfl, rfl, trivial⟩, rfl⟩ (vf_lit ⟨_, ⟨rfl, rfl, trivial⟩, rfl⟩ (vf_lit ⟨_, ⟨rfl, rfl, trivial⟩, rfl⟩ (vf_lit ⟨_, ⟨rfl, rfl, trivial⟩, rfl⟩ (vf_lit ⟨_, ⟨rfl, rfl, trivial⟩, rfl⟩ (vf_lit ⟨_, ⟨rfl, rfl, b3⟩, rfl⟩ (vf_lit ⟨_, ⟨rfl, rfl, b4⟩, rfl⟩ (vf_lit ⟨_, ⟨rfl, rfl, b5⟩, rfl⟩ (vf_sl (cell_sub q6) (vf_sl (cell_sub q7) vf_nil))))))))))
  · skip
    obtain ⟨xs, k, hk, _, hl, hlen, hf⟩ := DataW.trod_struct Tryz.underlying164 h
    rw [cells164] at hl
    obtain ⟨c0, r0, rfl, hl1⟩ := list_cons hl
    obtain ⟨c1, r1, rfl, hl2⟩ := list_cons hl1
    obtain ⟨c2, r2, rfl, hl3⟩ := list_cons hl2
    obtain ⟨c3, r3, rfl, hl4⟩ := list_cons hl3
    obtain ⟨c4, r4, rfl, hl5⟩ := list_cons hl4
    obtain ⟨c5, r5, rfl, hl6⟩ := list_cons hl5
    obtain ⟨c6, r6, rfl, hl7⟩ := list_cons hl6
    obtain ⟨c7, r7, rfl, hl8⟩ := list_cons hl7
    obtain ⟨c8, r8, rfl, hl9⟩ := list_cons hl8
    obtain ⟨c9, r9, rfl, hl10⟩ := list_cons hl9
    obtain ⟨c10, r10, rfl, hl11⟩ := list_cons hl10
    obtain ⟨c11, r11, rfl, hl12⟩ := list_cons hl11
    obtain ⟨c12, rfl⟩ := list_one hl12
    obtain ⟨x0, s0, rfl, hlen1⟩ := list_cons hlen
    obtain ⟨x1, s1, rfl, hlen2⟩ := list_cons hlen1
    obtain ⟨x2, s2, rfl, hlen3⟩ := list_cons hlen2
    obtain ⟨x3, rfl⟩ := list_one hlen3
    have h0 : DataW.trod enc Tryz.prog W base sp held k 4 (([c0, c1, c2, c3, c4, c5, c6, c7, c8, c9, c10, c11, c12].drop 0).take (Tryz.prog.cellsOf 4)) = some x0 := hf 0 _ rfl
    rw [cells4] at h0
    have h0 : DataW.trod enc Tryz.prog W base sp held k 4 [c0] = some x0 := h0
    have h1 : DataW.trod enc Tryz.prog W base sp held k 9 (([c0, c1, c2, c3, c4, c5, c6, c7, c8, c9, c10, c11, c12].drop 1).take (Tryz.prog.cellsOf 9)) = some x1 := hf 1 _ rfl
    rw [cells9] at h1
    have h1 : DataW.trod enc Tryz.prog W base sp held k 9 [c1] = some x1 := h1
    have h2 : DataW.trod enc Tryz.prog W base sp held k 27 (([c0, c1, c2, c3, c4, c5, c6, c7, c8, c9, c10, c11, c12].drop 2).take (Tryz.prog.cellsOf 27)) = some x2 := hf 2 _ rfl
    rw [cells27] at h2
    have h2 : DataW.trod enc Tryz.prog W base sp held k 27 [c2, c3, c4, c5, c6, c7, c8, c9, c10, c11] = some x2 := h2
    have h3 : DataW.trod enc Tryz.prog W base sp held k 9 (([c0, c1, c2, c3, c4, c5, c6, c7, c8, c9, c10, c11, c12].drop 12).take (Tryz.prog.cellsOf 9)) = some x3 := hf 3 _ rfl
    rw [cells9] at h3
    have h3 : DataW.trod enc Tryz.prog W base sp held k 9 [c12] = some x3 := h3
    obtain ⟨n0, e0, _⟩ := DataW.trod_bool Tryz.underlying4 h0
    obtain ⟨n1, e1, _, b1⟩ := DataW.trod_string Tryz.underlying9 h1
    obtain ⟨n2, F2, e2⟩ := (ih k (by omega)).1 _ _ h2
    obtain ⟨n3, e3, _, b3⟩ := DataW.trod_string Tryz.underlying9 h3
    simp only [List.cons.injEq, and_true] at e0 e1 e3
    subst e0 e1 e3
    refine ⟨⟨Item.mk n0 n1 n2.1 n3, n2.2⟩, (F2 ++ []), ?_⟩
    rw [Item.row_mk]
    exact (vf_lit ⟨_, ⟨rfl, rfl, trivial⟩, rfl⟩ (vf_lit ⟨_, ⟨rfl, rfl, b1⟩, rfl⟩ (vf_app e2 (vf_lit ⟨_, ⟨rfl, rfl, b3⟩, rfl⟩ vf_nil))))
  · skip
    obtain ⟨xs, k, hk, _, hl, hlen, hf⟩ := DataW.trod_struct Tryz.underlying167 h
    rw [cells167] at hl
    obtain ⟨c0, r0, rfl, hl1⟩ := list_cons hl
    obtain ⟨c1, r1, rfl, hl2⟩ := list_cons hl1
    obtain ⟨c2, rfl⟩ := list_one hl2
    obtain ⟨x0, s0, rfl, hlen1⟩ := list_cons hlen
    obtain ⟨x1, s1, rfl, hlen2⟩ := list_cons hlen1
    obtain ⟨x2, rfl⟩ := list_one hlen2
    have h0 : DataW.trod enc Tryz.prog W base sp held k 9 (([c0, c1, c2].drop 0).take (Tryz.prog.cellsOf 9)) = some x0 := hf 0 _ rfl
    rw [cells9] at h0
    have h0 : DataW.trod enc Tryz.prog W base sp held k 9 [c0] = some x0 := h0
    have h1 : DataW.trod enc Tryz.prog W base sp held k 9 (([c0, c1, c2].drop 1).take (Tryz.prog.cellsOf 9)) = some x1 := hf 1 _ rfl
    rw [cells9] at h1
    have h1 : DataW.trod enc Tryz.prog W base sp held k 9 [c1] = some x1 := h1
    have h2 : DataW.trod enc Tryz.prog W base sp held k 24 (([c0, c1, c2].drop 2).take (Tryz.prog.cellsOf 24)) = some x2 := hf 2 _ rfl
    rw [cells24] at h2
    have h2 : DataW.trod enc Tryz.prog W base sp held k 24 [c2] = some x2 := h2
    obtain ⟨n0, e0, _, b0⟩ := DataW.trod_string Tryz.underlying9 h0
    obtain ⟨n1, e1, _, b1⟩ := DataW.trod_string Tryz.underlying9 h1
    obtain ⟨n2, v2, F2, e2, q2⟩ := read_slice (row := fun y : {x : Expr // RExpr x} => y.1.row) Tryz.underlying24 cells27 (by decide) (fun y => Expr.row_len y.1) (fun n' cs' x' hn h' => (ih n' (by omega)).1 _ _ h') h2
    simp only [List.cons.injEq, and_true] at e0 e1 e2
    subst e0 e1 e2
    refine ⟨⟨Source.mk n0 n1 (n2.map Subtype.val), fun e he => sub_mem (R := RExpr) e he⟩, (F2 ++ []), ?_⟩
    rw [Source.row_mk]
    exact (vf_lit ⟨_, ⟨rfl, rfl, b0⟩, rfl⟩ (vf_lit ⟨_, ⟨rfl, rfl, b1⟩, rfl⟩ (vf_sl (cell_sub q2) vf_nil)))
  · skip
    obtain ⟨xs, k, hk, _, hl, hlen, hf⟩ := DataW.trod_struct Tryz.underlying170 h
    rw [cells170] at hl
    obtain ⟨c0, r0, rfl, hl1⟩ := list_cons hl
    obtain ⟨c1, r1, rfl, hl2⟩ := list_cons hl1
    obtain ⟨c2, r2, rfl, hl3⟩ := list_cons hl2
    obtain ⟨c3, r3, rfl, hl4⟩ := list_cons hl3
    obtain ⟨c4, r4, rfl, hl5⟩ := list_cons hl4
    obtain ⟨c5, r5, rfl, hl6⟩ := list_cons hl5
    obtain ⟨c6, r6, rfl, hl7⟩ := list_cons hl6
    obtain ⟨c7, r7, rfl, hl8⟩ := list_cons hl7
    obtain ⟨c8, r8, rfl, hl9⟩ := list_cons hl8
    obtain ⟨c9, r9, rfl, hl10⟩ := list_cons hl9
    obtain ⟨c10, rfl⟩ := list_one hl10
    obtain ⟨x0, s0, rfl, hlen1⟩ := list_cons hlen
    obtain ⟨x1, rfl⟩ := list_one hlen1
    have h0 : DataW.trod enc Tryz.prog W base sp held k 27 (([c0, c1, c2, c3, c4, c5, c6, c7, c8, c9, c10].drop 0).take (Tryz.prog.cellsOf 27)) = some x0 := hf 0 _ rfl
    rw [cells27] at h0
    have h0 : DataW.trod enc Tryz.prog W base sp held k 27 [c0, c1, c2, c3, c4, c5, c6, c7, c8, c9] = some x0 := h0
    have h1 : DataW.trod enc Tryz.prog W base sp held k 4 (([c0, c1, c2, c3, c4, c5, c6, c7, c8, c9, c10].drop 10).take (Tryz.prog.cellsOf 4)) = some x1 := hf 1 _ rfl
    rw [cells4] at h1
    have h1 : DataW.trod enc Tryz.prog W base sp held k 4 [c10] = some x1 := h1
    obtain ⟨n0, F0, e0⟩ := (ih k (by omega)).1 _ _ h0
    obtain ⟨n1, e1, _⟩ := DataW.trod_bool Tryz.underlying4 h1
    simp only [List.cons.injEq, and_true] at e1
    subst e1
    refine ⟨⟨SortKey.mk n0.1 n1, n0.2⟩, (F0 ++ []), ?_⟩
    rw [SortKey.row_mk]
    exact (vf_app e0 (vf_lit ⟨_, ⟨rfl, rfl, trivial⟩, rfl⟩ vf_nil))
  · skip
    obtain ⟨xs, k, hk, _, hl, hlen, hf⟩ := DataW.trod_struct Tryz.underlying42 h
    rw [cells42] at hl
    obtain ⟨c0, r0, rfl, hl1⟩ := list_cons hl
    obtain ⟨c1, r1, rfl, hl2⟩ := list_cons hl1
    obtain ⟨c2, r2, rfl, hl3⟩ := list_cons hl2
    obtain ⟨c3, r3, rfl, hl4⟩ := list_cons hl3
    obtain ⟨c4, r4, rfl, hl5⟩ := list_cons hl4
    obtain ⟨c5, rfl⟩ := list_one hl5
    obtain ⟨x0, s0, rfl, hlen1⟩ := list_cons hlen
    obtain ⟨x1, s1, rfl, hlen2⟩ := list_cons hlen1
    obtain ⟨x2, s2, rfl, hlen3⟩ := list_cons hlen2
    obtain ⟨x3, s3, rfl, hlen4⟩ := list_cons hlen3
    obtain ⟨x4, s4, rfl, hlen5⟩ := list_cons hlen4
    obtain ⟨x5, rfl⟩ := list_one hlen5
    have h0 : DataW.trod enc Tryz.prog W base sp held k 4 (([c0, c1, c2, c3, c4, c5].drop 0).take (Tryz.prog.cellsOf 4)) = some x0 := hf 0 _ rfl
    rw [cells4] at h0
    have h0 : DataW.trod enc Tryz.prog W base sp held k 4 [c0] = some x0 := h0
    have h1 : DataW.trod enc Tryz.prog W base sp held k 38 (([c0, c1, c2, c3, c4, c5].drop 1).take (Tryz.prog.cellsOf 38)) = some x1 := hf 1 _ rfl
    rw [cells38] at h1
    have h1 : DataW.trod enc Tryz.prog W base sp held k 38 [c1] = some x1 := h1
    have h2 : DataW.trod enc Tryz.prog W base sp held k 39 (([c0, c1, c2, c3, c4, c5].drop 2).take (Tryz.prog.cellsOf 39)) = some x2 := hf 2 _ rfl
    rw [cells39] at h2
    have h2 : DataW.trod enc Tryz.prog W base sp held k 39 [c2] = some x2 := h2
    have h3 : DataW.trod enc Tryz.prog W base sp held k 24 (([c0, c1, c2, c3, c4, c5].drop 3).take (Tryz.prog.cellsOf 24)) = some x3 := hf 3 _ rfl
    rw [cells24] at h3
    have h3 : DataW.trod enc Tryz.prog W base sp held k 24 [c3] = some x3 := h3
    have h4 : DataW.trod enc Tryz.prog W base sp held k 40 (([c0, c1, c2, c3, c4, c5].drop 4).take (Tryz.prog.cellsOf 40)) = some x4 := hf 4 _ rfl
    rw [cells40] at h4
    have h4 : DataW.trod enc Tryz.prog W base sp held k 40 [c4] = some x4 := h4
    have h5 : DataW.trod enc Tryz.prog W base sp held k 3 (([c0, c1, c2, c3, c4, c5].drop 5).take (Tryz.prog.cellsOf 3)) = some x5 := hf 5 _ rfl
    rw [cells3] at h5
    have h5 : DataW.trod enc Tryz.prog W base sp held k 3 [c5] = some x5 := h5
    obtain ⟨n0, e0, _⟩ := DataW.trod_bool Tryz.underlying4 h0
    obtain ⟨n1, v1, F1, e1, q1⟩ := read_slice (row := fun y : {x : Item // RItem x} => y.1.row) Tryz.underlying38 cells164 (by decide) (fun y => Item.row_len y.1) (fun n' cs' x' hn h' => (ih n' (by omega)).2.1 _ _ h') h1
    obtain ⟨n2, v2, F2, e2, q2⟩ := read_slice (row := fun y : {x : Source // RSource x} => y.1.row) Tryz.underlying39 cells167 (by decide) (fun y => Source.row_len y.1) (fun n' cs' x' hn h' => (ih n' (by omega)).2.2.1 _ _ h') h2
    obtain ⟨n3, v3, F3, e3, q3⟩ := read_slice (row := fun y : {x : Expr // RExpr x} => y.1.row) Tryz.underlying24 cells27 (by decide) (fun y => Expr.row_len y.1) (fun n' cs' x' hn h' => (ih n' (by omega)).1 _ _ h') h3
    obtain ⟨n4, v4, F4, e4, q4⟩ := read_slice (row := fun y : {x : SortKey // RSortKey x} => y.1.row) Tryz.underlying40 cells170 (by decide) (fun y => SortKey.row_len y.1) (fun n' cs' x' hn h' => (ih n' (by omega)).2.2.2.1 _ _ h') h4
    obtain ⟨n5, e5, _, w5⟩ := DataW.trod_int Tryz.underlying3 h5
    simp only [List.cons.injEq, and_true] at e0 e1 e2 e3 e4 e5
    subst e0 e1 e2 e3 e4 e5
    refine ⟨⟨Query.mk n0 (n1.map Subtype.val) (n2.map Subtype.val) (n3.map Subtype.val) (n4.map Subtype.val) n5, ⟨(wf64 w5).2, fun x hx => by
      simp only [exprsQ, List.mem_append] at hx
      rcases hx with ((hx | hx) | hx) | hx
      · simp only [exprsI, List.mem_map, List.mem_filter] at hx
        obtain ⟨y, ⟨hy, _⟩, rfl⟩ := hx
        obtain ⟨z, _, rfl⟩ := hy
        exact z.2
      · simp only [List.mem_flatMap] at hx
        obtain ⟨y, hy, hx⟩ := hx
        exact sub_mem y hy x hx
      · exact sub_mem x hx
      · simp only [List.mem_map] at hx
        obtain ⟨y, hy, rfl⟩ := hx
        obtain ⟨z, _, rfl⟩ := hy
        exact z.2⟩⟩, (F1 ++ (F2 ++ (F3 ++ (F4 ++ [])))), ?_⟩
    rw [Query.row_mk]
    exact (vf_lit ⟨_, ⟨rfl, rfl, trivial⟩, rfl⟩ (vf_sl (cell_sub q1) (vf_sl (cell_sub q2) (vf_sl (cell_sub q3) (vf_sl (cell_sub q4) (vf_lit ⟨_, ⟨rfl, rfl, trivial⟩, rfl⟩ vf_nil))))))
end
section
variable {H : Type} {enc : TypeId × Value → H} {W : World} {base : Nat} {sp : Nat → Bool} {held : Bool}
theorem cells46 : Tryz.prog.cellsOf 46 = 12 := by kernel_rfl
theorem cells43 : Tryz.prog.cellsOf 43 = 1 := by kernel_rfl
theorem cells44 : Tryz.prog.cellsOf 44 = 1 := by kernel_rfl
def RERow (x : ERow) : Prop := ∀ e ∈ x.l, Rg e
theorem read_erow {n : Nat} {cs : List Value} {x : DataW H × List MemPlace} (h : DataW.trod enc Tryz.prog W base sp held n 24 cs = some x) : ∃ (e : {x : ERow // RERow x}) (F : List Nat), ValsF W e.1.row cs F := by
  obtain ⟨ys, v, F, rfl, hc⟩ := read_slice (row := fun y : {x : Expr // RExpr x} => y.1.row) Tryz.underlying24 cells27 (by decide) (fun y => Expr.row_len y.1) (fun n' cs' x' hn h' => (read_trees n').1 _ _ h') h
  refine ⟨⟨ERow.mk (ys.map Subtype.val), fun e he => sub_mem (R := RExpr) e he⟩, F ++ [], ?_⟩
  rw [ERow.row_mk]
  exact vf_sl (cell_sub hc) vf_nil
theorem read_stmt {n : Nat} {cs : List Value} {x : DataW H × List MemPlace} (h : DataW.trod enc Tryz.prog W base sp held n 46 cs = some x) : ∃ (e : {x : Stmt // RgS x}) (F : List Nat), ValsF W e.1.row cs F := by
  obtain ⟨xs, k, hk, _, hl, hlen, hf⟩ := DataW.trod_struct Tryz.underlying46 h
  rw [cells46] at hl
  obtain ⟨c0, r0, rfl, hl1⟩ := list_cons hl
  obtain ⟨c1, r1, rfl, hl2⟩ := list_cons hl1
  obtain ⟨c2, r2, rfl, hl3⟩ := list_cons hl2
  obtain ⟨c3, r3, rfl, hl4⟩ := list_cons hl3
  obtain ⟨c4, r4, rfl, hl5⟩ := list_cons hl4
  obtain ⟨c5, r5, rfl, hl6⟩ := list_cons hl5
  obtain ⟨c6, r6, rfl, hl7⟩ := list_cons hl6
  obtain ⟨c7, r7, rfl, hl8⟩ := list_cons hl7
  obtain ⟨c8, r8, rfl, hl9⟩ := list_cons hl8
  obtain ⟨c9, r9, rfl, hl10⟩ := list_cons hl9
  obtain ⟨c10, r10, rfl, hl11⟩ := list_cons hl10
  obtain ⟨c11, rfl⟩ := list_one hl11
  obtain ⟨x0, s0, rfl, hlen1⟩ := list_cons hlen
  obtain ⟨x1, s1, rfl, hlen2⟩ := list_cons hlen1
  obtain ⟨x2, s2, rfl, hlen3⟩ := list_cons hlen2
  obtain ⟨x3, s3, rfl, hlen4⟩ := list_cons hlen3
  obtain ⟨x4, s4, rfl, hlen5⟩ := list_cons hlen4
  obtain ⟨x5, s5, rfl, hlen6⟩ := list_cons hlen5
  obtain ⟨x6, rfl⟩ := list_one hlen6
  have h0 : DataW.trod enc Tryz.prog W base sp held k 3 (([c0, c1, c2, c3, c4, c5, c6, c7, c8, c9, c10, c11].drop 0).take (Tryz.prog.cellsOf 3)) = some x0 := hf 0 _ rfl
  rw [cells3] at h0
  have h0 : DataW.trod enc Tryz.prog W base sp held k 3 [c0] = some x0 := h0
  have h1 : DataW.trod enc Tryz.prog W base sp held k 42 (([c0, c1, c2, c3, c4, c5, c6, c7, c8, c9, c10, c11].drop 1).take (Tryz.prog.cellsOf 42)) = some x1 := hf 1 _ rfl
  rw [cells42] at h1
  have h1 : DataW.trod enc Tryz.prog W base sp held k 42 [c1, c2, c3, c4, c5, c6] = some x1 := h1
  have h2 : DataW.trod enc Tryz.prog W base sp held k 9 (([c0, c1, c2, c3, c4, c5, c6, c7, c8, c9, c10, c11].drop 7).take (Tryz.prog.cellsOf 9)) = some x2 := hf 2 _ rfl
  rw [cells9] at h2
  have h2 : DataW.trod enc Tryz.prog W base sp held k 9 [c7] = some x2 := h2
  have h3 : DataW.trod enc Tryz.prog W base sp held k 43 (([c0, c1, c2, c3, c4, c5, c6, c7, c8, c9, c10, c11].drop 8).take (Tryz.prog.cellsOf 43)) = some x3 := hf 3 _ rfl
  rw [cells43] at h3
  have h3 : DataW.trod enc Tryz.prog W base sp held k 43 [c8] = some x3 := h3
  have h4 : DataW.trod enc Tryz.prog W base sp held k 44 (([c0, c1, c2, c3, c4, c5, c6, c7, c8, c9, c10, c11].drop 9).take (Tryz.prog.cellsOf 44)) = some x4 := hf 4 _ rfl
  rw [cells44] at h4
  have h4 : DataW.trod enc Tryz.prog W base sp held k 44 [c9] = some x4 := h4
  have h5 : DataW.trod enc Tryz.prog W base sp held k 24 (([c0, c1, c2, c3, c4, c5, c6, c7, c8, c9, c10, c11].drop 10).take (Tryz.prog.cellsOf 24)) = some x5 := hf 5 _ rfl
  rw [cells24] at h5
  have h5 : DataW.trod enc Tryz.prog W base sp held k 24 [c10] = some x5 := h5
  have h6 : DataW.trod enc Tryz.prog W base sp held k 24 (([c0, c1, c2, c3, c4, c5, c6, c7, c8, c9, c10, c11].drop 11).take (Tryz.prog.cellsOf 24)) = some x6 := hf 6 _ rfl
  rw [cells24] at h6
  have h6 : DataW.trod enc Tryz.prog W base sp held k 24 [c11] = some x6 := h6
  obtain ⟨n0, e0, _, w0⟩ := DataW.trod_int Tryz.underlying3 h0
  obtain ⟨n1, F1, e1⟩ := (read_trees k).2.2.2.2 _ _ h1
  obtain ⟨n2, e2, _, b2⟩ := DataW.trod_string Tryz.underlying9 h2
  obtain ⟨n3, v3, F3, e3, q3⟩ := read_slice (row := fun y : {x : ERow // RERow x} => y.1.row) Tryz.underlying43 cells24 (by decide) (fun y => ERow.row_len y.1) (fun n' cs' x' hn h' => read_erow h') h3
  obtain ⟨n4, v4, F4, e4, q4⟩ := read_slice (row := srow) Tryz.underlying44 cells9 (by decide) srow_len (fun n' cs' x' hn h' => read_text h') h4
  obtain ⟨n5, v5, F5, e5, q5⟩ := read_slice (row := fun y : {x : Expr // RExpr x} => y.1.row) Tryz.underlying24 cells27 (by decide) (fun y => Expr.row_len y.1) (fun n' cs' x' hn h' => (read_trees n').1 _ _ h') h5
  obtain ⟨n6, v6, F6, e6, q6⟩ := read_slice (row := fun y : {x : Expr // RExpr x} => y.1.row) Tryz.underlying24 cells27 (by decide) (fun y => Expr.row_len y.1) (fun n' cs' x' hn h' => (read_trees n').1 _ _ h') h6
  simp only [List.cons.injEq, and_true] at e0 e2 e3 e4 e5 e6
  subst e0 e2 e3 e4 e5 e6
  refine ⟨⟨Stmt.mk n0 n1.1 n2 (n3.map Subtype.val) n4 (n5.map Subtype.val) (n6.map Subtype.val), n1.2.1, fun x hx => ?_⟩, (F1 ++ (F3 ++ (F4 ++ (F5 ++ (F6 ++ []))))), ?_⟩
  · simp only [stExprs, List.mem_append] at hx
    rcases hx with ((hx | hx) | hx) | hx
    · exact n1.2.2 x hx
    · obtain ⟨y, hy, hx⟩ := List.mem_flatMap.1 hx
      exact sub_mem (R := RERow) y hy x hx
    · exact sub_mem (R := RExpr) x hx
    · exact sub_mem (R := RExpr) x hx
  rw [Stmt.row_mk]
  exact (vf_lit ⟨_, ⟨rfl, rfl, trivial⟩, rfl⟩ (vf_app e1 (vf_lit ⟨_, ⟨rfl, rfl, b2⟩, rfl⟩ (vf_sl (cell_sub q3) (vf_sl q4 (vf_sl (cell_sub q5) (vf_sl (cell_sub q6) vf_nil)))))))
end
end Go.Proofs.YtfdcibofiibppaaGreatDoor
namespace Go.Dv
open Go Go.ChangeShapes Go.WideShapes
theorem returnsInHanded_both {H : Type} {enc : TypeId × Value → H} {a : Assume} {C : Checked} {os : Os} {f : FuncId} {fn : Func} {s : ChangeSpec} {conds : List PathCond} {apart fresh handsOn again : Bool} {X : World → Array Value → Prop}
    (hX : ∀ (w w' : World) (args : Array Value), w.heap = w'.heap → X w args → X w' args)
    (own : ownKnob C.prog.godebug = none) (started : os.Started) (noInit : C.prog.inits.idxOf? f = none) (hfn : C.prog.funcs[f]? = some fn)
    (witness : ∃ (w : World) (tape : Tape) (i : Input), w.os = os ∧ (w.forCall tape i).Shaped C.prog ∧ i.vars = [] ∧ Input.okWide C.prog (w.forCall tape i) .any w.heap.size f i ∧
      ((s.pre enc C.prog fn conds apart (w.forCall tape i).memory i.args ∧ X (w.forCall tape i).memory i.args) ∧ sizedMet enc C.prog fn (OpenSpec.ofChange s) apart (w.forCall tape i).memory i.args) ∧ a.holds C.prog (lone (Frame.enter C.prog f i.args .normal) [] (w.forCall tape i)))
    (contract : ∀ (W : World) (base : Nat) (args : Array Value) (ds gs : List (DataW H)) (before : List MemPlace),
      (∀ (j : Nat) t v, fn.params[j]? = some t → args[j]? = some v → Value.okWide C.prog W .any base t v) →
      DataW.Whole enc C.prog fn.params.toList s.vars apart W args.toList ds gs before →
      conds.all (PathCond.test C.prog ⟨fn.params.toList, ds, s.plain.varTypes C.prog, gs⟩) = true →
      X W args → W.ShapedOpen C.prog →
      Calls C.prog f args W fun e W' => ∃ v, e = .returned v ∧ s.post enc C.prog fn apart fresh handsOn again W args v W') :
    ReturnsInHanded a C os f .any (fun w args => (s.pre enc C.prog fn conds apart w args ∧ X w args) ∧ sizedMet enc C.prog fn (OpenSpec.ofChange s) apart w args) (s.post enc C.prog fn apart fresh handsOn again) := by
  refine returnsInHanded_of_calls own started noInit witness ?_
  intro w tape i _ hsh _ hok hpre hholds
  obtain ⟨_, _, _, fn', hfn', _, _, _, _, hval⟩ := hok
  have e : fn' = fn := Option.some.inj (hfn'.symm.trans hfn)
  subst e
  obtain ⟨⟨⟨ds, gs, before, hw, hc⟩, hx⟩, _⟩ := hpre
  have hw' := DataW.Whole.of_heap (w' := w.forCall tape i) (by rfl) hw
  refine (contract (w.forCall tape i) w.heap.size i.args ds gs before hval hw' hc (hX _ _ _ (by rfl) hx) hsh).mono fun e W' ⟨v, he, hp⟩ => ?_
  subst he
  exact ChangeSpec.post_blind hp
theorem post_old {H : Type} {enc : TypeId × Value → H} {P : Program} {f : Func} {s : ChangeSpec} {apart fresh handsOn again : Bool} {W W' : World} {args : Array Value} {v : Value} {ds gs : List (DataW H)} {before pa pv : List MemPlace}
    (hW : DataW.Whole enc P f.params.toList s.vars apart W args.toList ds gs before)
    (hres : ∀ (b : Nat) (sp : Nat → Bool) (hd : Bool), DataW.TrodAll enc P W' b sp hd f.resultTypes.toList (v.resultList f.resultTypes.size) (s.fn H (ds ++ gs)).results [])
    (hargs : ∀ sp : Nat → Bool, (∀ p ∈ before, sp p.block = true) → DataW.TrodAll enc P W' 0 sp true f.params.toList args.toList (s.fn H (ds ++ gs)).args pa)
    (hvars : ∀ sp : Nat → Bool, (∀ p ∈ before, sp p.block = true) → DataW.TrodVars enc P W' sp s.vars (s.fn H (ds ++ gs)).vars pv)
    (hps : before = pa ++ pv) (hk : W.keptBut W' (· ∈ before)) (hfz : ∀ a : Addr, a.block < W.heap.size → W'.frozen? a = W.frozen? a)
    (hok : ∀ (j : Nat) (t : TypeId) (r : Value), f.resultTypes[j]? = some t → (v.resultList f.resultTypes.size)[j]? = some r → Value.okWide P W' .any 0 t r) :
    s.post enc P f apart fresh handsOn again W args v W' := by
  have hold : ∀ p ∈ before, (fun b => decide (b < W.heap.size)) p.block = true := fun p hp => by simpa using hW.lt p hp
  have hlt : ∀ p ∈ before, p.block < W.heap.size := fun p hp => hW.lt p hp
  refine ⟨ds, gs, before, [], pa, pv, hW, hres _ _ _, hargs _ hold, hvars _ hold, World.keptBut_mono (fun p hp => ⟨hp, ?_⟩) hk, fun _ => ?_⟩
  · rw [hps, List.mem_append] at hp
    exact Or.inr hp
  · obtain ⟨_, _, _, _, _, hz, hn⟩ := hW
    refine ⟨hok, _, _, ([] ++ pa) ++ pv, ⟨[] ++ pa, pv, trodAll_append (hargs _ (fun _ _ => rfl)) (hres _ _ _), hvars _ (fun _ _ => rfl), rfl, ?_, ?_⟩, ?_⟩
    · intro b off hp
      have hp' : MemPlace.cell b off ∈ before := by rw [hps]; simpa using hp
      rw [hfz ⟨b, off, none⟩ (hlt _ hp')]
      exact hz b off hp'
    · intro ha
      have := hn ha
      rw [hps] at this
      simpa using this
    · intro p hp _
      rw [hps]
      simpa using hp
theorem glw_of {P : Program} {W : World} {t tp4 tp5 : TypeId} {zero : Array Value} {n1 n4 n5 : String} {a4 a5 : Value} (h1 : P.globalNamed n1 = some 1) (ht : Lib.TabIs P W n1 .u64 Lib.pow10Tab)
    (h : W.ShapedOpen P) (hg : 0 < P.globals.size) (hr : ((begin P (fun _ _ => 0) default).world.heap[0]?).bind Obj.row? = some (zero, t)) (hz : zero.size = 1)
    (hb : P.buildable t = true) (hc : P.cellTypes P.depth t = some [t]) (hu : P.underlying t = some (.int .i64))
    (g4 : P.globalNamed n4 = some 4) (v4 : W.var? P n4 = some #[.iface tp4 a4]) (g5 : P.globalNamed n5 = some 5) (v5 : W.var? P n5 = some #[.iface tp5 a5]) : GlW W (fun _ => False) := by
  intro x hx
  simp only [libVars, List.mem_cons, List.not_mem_nil, or_false] at hx
  rcases hx with rfl | rfl | rfl | rfl
  · refine ⟨id, ?_⟩
    unfold Lib.TabIs World.var? at ht
    rw [h1, Option.bind_some] at ht
    split at ht
    · rename_i cs ty lh hh
      exact ⟨cs, ty, lh, hh, Option.some.inj ht⟩
    · cases ht
  · refine ⟨id, ?_⟩
    obtain ⟨m, hm⟩ := Go.Proofs.cell_of_shapedOpen_int h hg hr hz hb hc hu
    unfold World.cell? at hm
    simp only at hm
    split at hm
    · rename_i cs ty lh hh
      exact ⟨cs, ty, lh, hh, m, hm⟩
    · cases hm
  · refine ⟨id, ?_⟩
    unfold World.var? at v4
    rw [g4, Option.bind_some] at v4
    split at v4
    · rename_i cs ty lh hh
      obtain rfl := Option.some.inj v4
      exact ⟨_, ty, lh, hh, _, rfl, .inr ⟨_, _, rfl⟩⟩
    · cases v4
  · refine ⟨id, ?_⟩
    unfold World.var? at v5
    rw [g5, Option.bind_some] at v5
    split at v5
    · rename_i cs ty lh hh
      obtain rfl := Option.some.inj v5
      exact ⟨_, ty, lh, hh, _, rfl, .inr ⟨_, _, rfl⟩⟩
    · cases v5
end Go.Dv
namespace Go.Proofs.YtfdcibofiibppaaGreatDoor
open Go Go.Dv Go.ChangeShapes Go.WideShapes Go.ChangeAt Go.RowKit
theorem own : ownKnob Tryz.prog.godebug = none := by kernel_rfl
theorem laidOut : laidOutB Tryz.prog = true := by kernel_rfl
theorem star : "*" ++ "errors.errorString" = "*errors.errorString" := by decide
theorem row251 (u : TypeId) (h : Tryz.prog.typeName? 3 u = some "*errors.errorString") : u = 251 :=
  typeName_ptr_named (nm := "errors.errorString") (by rw [star]; kernel_rfl) (by kernel_rfl) (by decide) u (by rw [star]; exact h)
theorem cells253 : Tryz.prog.cellsOf 253 = 1 := by kernel_rfl
theorem laid_glw {W : World} (hL : laidMetH Tryz.prog Rows.fnExactFullTextRow.laid W) (hs : W.ShapedOpen Tryz.prog) : GlW W (fun _ => False) := by
  rw [MakeChecks.laidMetH_plain _ _ _ (by kernel_rfl)] at hL
  have h2 : laidMet Tryz.prog ((((Rows.fnExactFullTextRow.laid.map (·.1)).getD 2 ""), Lib.tabData .u64 Lib.pow10Tab) :: Rows.fnExactFullTextRow.laid.drop 3) W := laidMet.tail (laidMet.tail hL)
  have h4 : laidMet Tryz.prog (Rows.fnExactFullTextRow.laid.drop 4) W := laidMet.tail (laidMet.tail h2)
  have h5 : laidMet Tryz.prog (Rows.fnExactFullTextRow.laid.drop 5) W := laidMet.tail h4
  obtain ⟨a5, s5, v5, _⟩ := laid_sentinel (g := 5) (ti := 157) (tp := 251) (te := 253) (ts := 9) h4 (by kernel_rfl) (by kernel_rfl) Tryz.underlying157 row251 Tryz.underlying251 Tryz.underlying253 rfl rfl Tryz.underlying9 cells253 cells9
  obtain ⟨a4, s4, v4, _⟩ := laid_sentinel (g := 4) (ti := 157) (tp := 251) (te := 253) (ts := 9) h5 (by kernel_rfl) (by kernel_rfl) Tryz.underlying157 row251 Tryz.underlying251 Tryz.underlying253 rfl rfl Tryz.underlying9 cells253 cells9
  exact glw_of (t := 3) (zero := #[.int .i64 0]) (by kernel_rfl) (Lib.tabIs_of_head (g := 1) (t := 233) (e := 219) (n := 20) (by kernel_rfl) (by kernel_rfl) Tryz.underlying233 Tryz.underlying219 (by kernel_rfl) (by kernel_rfl) h2) hs (of_decide_eq_true (by kernel_rfl)) (by kernel_rfl) rfl (by kernel_rfl) (by kernel_rfl) Tryz.underlying3 (by kernel_rfl) v4 (by kernel_rfl) v5
end Go.Proofs.YtfdcibofiibppaaGreatDoor
