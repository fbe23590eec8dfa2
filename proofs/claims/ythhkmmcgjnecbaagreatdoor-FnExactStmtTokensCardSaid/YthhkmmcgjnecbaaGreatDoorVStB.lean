/-
  Both print statements alike.
  Conditions: none.
-/
import Derived.Test.YthhkmmcgjnecbaaGreatDoorVStA
set_option linter.unusedVariables false
set_option linter.unusedSimpArgs false
set_option maxRecDepth 8000
namespace Go.Proofs.YthhkmmcgjnecbaaGreatDoor
open Go Go.Dv
open Go.Vc (D shrI xorI andI and255)
def eqT : Tok := gT ⟨#[61]⟩
def elF (g : Expr → List Tok) (l : List Expr) (i : Nat) : List Tok := cmL i ++ atL l g i
def rowT (g : Expr → List Tok) (x : ERow) : List Tok := lpT :: (seqN (elF g x.l) x.l.length ++ [rpT])
def rowsF (g : Expr → List Tok) (rows : List ERow) (i : Nat) : List Tok := cmL i ++ atL rows (rowT g) i
def setF' (g : Expr → List Tok) (cols : List ByteArray) (sets : List Expr) (i : Nat) : List Tok := cmL i ++ (atL cols (fun c => [nT c, eqT]) i ++ atL sets g i)
def stTok (g : Expr → List Tok) : Stmt → List Tok
 | .mk kind q table rows cols sets where2 =>
  if kind = 1 then quT g q else if kind = 2 then kT 23 :: kT 24 :: nT table :: kT 25 :: seqN (rowsF g rows) rows.length
  else if kind = 3 then kT 26 :: nT table :: kT 27 :: (seqN (setF' g cols sets) cols.length ++ whL g where2) else kT 28 :: kT 3 :: nT table :: whL g where2
section
variable {gn : Expr → Nat} {g : Expr → List Tok}
theorem sm_els {l : List Expr} (h : ∀ x ∈ l, Sm (150 * gn x) (g x)) : Sm (l.length + 150 * (l.map gn).sum) (seqN (elF g l) l.length) := by
 have s1 : Sm _ (seqN (elF g l) l.length) := Sm.seq (b := fun i => 1 + optN (fun x => 150 * gn x) l[i]?) fun i hi => by
  show Sm _ (cmL i ++ atL l g i)
  rw [atL_get hi]
  simp only [List.getElem?_eq_getElem hi, optN]
  exact (Sm.ite (Sm.one (by decide)) (Sm.nil.le (by omega) : Sm 1 [])).app (h _ (List.getElem_mem hi))
 rw [range_sum l 1 (fun x => 150 * gn x), mul_sum] at s1
 exact s1.le (by omega)
theorem sm_rows {rows : List ERow} (hr : rows.all r12 = true) (h : ∀ x ∈ rows.flatMap ERow.l, Sm (150 * gn x) (g x)) : Sm (15 * rows.length + 150 * ((rows.flatMap ERow.l).map gn).sum) (seqN (rowsF g rows) rows.length) := by
 have s1 : Sm _ (seqN (rowsF g rows) rows.length) := Sm.seq (b := fun i => 15 + optN (fun x : ERow => 150 * (x.l.map gn).sum) rows[i]?) fun i hi => by
  have hm := List.getElem_mem hi
  have h12 := List.all_eq_true.1 hr _ hm
  simp only [r12, decide_eq_true_eq] at h12
  show Sm _ (cmL i ++ atL rows (rowT g) i)
  rw [atL_get hi]
  simp only [List.getElem?_eq_getElem hi, optN]
  have se := sm_els (gn := gn) (g := g) (l := rows[i].l) fun x hx => h x (List.mem_flatMap.2 ⟨_, hm, hx⟩)
  exact ((Sm.ite (Sm.one (by decide)) (Sm.nil.le (by omega) : Sm 1 [])).app (Sm.cons (by decide) (se.app (Sm.one (by decide))))).le (by omega)
 rw [range_sum rows 15 (fun x : ERow => 150 * (x.l.map gn).sum)] at s1
 have e : (rows.map fun x : ERow => 150 * (x.l.map gn).sum).sum = 150 * ((rows.flatMap ERow.l).map gn).sum := by
  clear s1 h hr
  induction rows with
  | nil => rfl
  | cons x r ih => rw [List.map_cons, List.sum_cons, ih, List.flatMap_cons, List.map_append, List.sum_append, Nat.mul_add]
 rw [e] at s1
 exact s1
theorem sm_sets {cols : List ByteArray} {sets : List Expr} (hc : cols.all nameB = true) (he : sets.length = cols.length) (h : ∀ x ∈ sets, Sm (150 * gn x) (g x)) : Sm (3 * sets.length + 150 * (sets.map gn).sum) (seqN (setF' g cols sets) cols.length) := by
 have s1 : Sm _ (seqN (setF' g cols sets) sets.length) := Sm.seq (b := fun i => 3 + optN (fun x => 150 * gn x) sets[i]?) fun i hi => by
  have hi' : i < cols.length := by omega
  have hn := List.all_eq_true.1 hc _ (List.getElem_mem hi')
  simp only [nameB, decide_eq_true_eq] at hn
  show Sm _ (cmL i ++ (atL cols (fun c => [nT c, eqT]) i ++ atL sets g i))
  rw [atL_get hi, atL_get hi']
  simp only [List.getElem?_eq_getElem hi, optN]
  exact ((Sm.ite (Sm.one (by decide)) (Sm.nil.le (by omega) : Sm 1 [])).app ((Sm.cons (by show (cols[i]).size ≤ 40; omega) (Sm.one (by decide))).app (h _ (List.getElem_mem hi)))).le (by omega)
 rw [range_sum sets 3 (fun x => 150 * gn x), mul_sum] at s1
 rw [← he]
 exact s1
end
def RgS (s : Stmt) : Prop := s.query.lim ≤ 9223372036854775807 ∧ ∀ x, x ∈ stExprs s → Rg x
theorem st_parts {s : Stmt} (h : stOk s = true) : smB s = true ∧ match s with
 | .mk kind q table rows cols sets where2 => (kind = 1 ∧ fmQ fmE q = true) ∨ (kind ≠ 1 ∧ nameB table = true ∧ (∀ x ∈ rows.flatMap ERow.l, fmE x = true) ∧ (∀ x ∈ sets, fmE x = true) ∧ (∀ x ∈ where2, fmE x = true) ∧
  ((kind = 2 ∧ rows.length ≤ 5 ∧ rows.all r12 = true) ∨ (kind = 3 ∧ cols.length ≤ 12 ∧ sets.length = cols.length ∧ cols.all nameB = true) ∨ kind = 4)) := by
 obtain ⟨kind, q, table, rows, cols, sets, where2⟩ := s
 simp only [stOk, Bool.and_eq_true] at h
 refine ⟨h.1, ?_⟩
 have h := h.2
 simp only [shI] at h
 by_cases k1 : kind = 1
 ·simp only [if_pos k1, Bool.and_eq_true] at h
  exact .inl ⟨k1, h.2.2.2.2.2⟩
 refine .inr ⟨k1, ?_⟩
 simp only [if_neg k1, Bool.and_eq_true, stExprs, List.all_append] at h
 obtain ⟨_, h1, ⟨⟨⟨_, h2⟩, h3⟩, h4⟩, h5⟩ := h
 refine ⟨h1, List.all_eq_true.1 h2, List.all_eq_true.1 h3, List.all_eq_true.1 h4, ?_⟩
 unfold tail2 at h5
 by_cases k2 : kind = 2
 ·simp only [if_pos k2, Bool.and_eq_true, decide_eq_true_eq] at h5
  exact .inl ⟨k2, h5.2.2.2.2.1, h5.2.2.2.2.2⟩
 simp only [if_neg k2] at h5
 by_cases k3 : kind = 3
 ·simp only [if_pos k3, Bool.and_eq_true, decide_eq_true_eq] at h5
  exact .inr (.inl ⟨k3, h5.2.2.1, h5.2.2.2.1, h5.2.2.2.2.2⟩)
 simp only [if_neg k3] at h5
 by_cases k4 : kind = 4
 ·exact .inr (.inr k4)
 ·simp [if_neg k4] at h5
theorem st_sm (full : Bool) {s : Stmt} (h : stOk s = true) (hr : RgS s) : Sm 60000 (stTok (tkE full) s) := by
 obtain ⟨hsm, hp⟩ := st_parts h
 obtain ⟨kind, q, table, rows, cols, sets, where2⟩ := s
 obtain ⟨hlim, hrg⟩ := hr
 simp only [smB, Bool.and_eq_true, decide_eq_true_eq] at hsm
 have hsum := hsm.2
 simp only [stExprs, List.map_append, List.sum_append] at hsum
 simp only [stExprs, List.mem_append] at hrg
 have he : ∀ x, fmE x = true → Rg x → Sm (150 * ndE x) (tkE full x) := fun x => tkE_sm full x
 rcases hp with ⟨rfl, hq⟩ | ⟨k1, hn, h2, h3, h4, hk⟩
 ·have hb : ∀ x ∈ exprsQ q, fmE x = true := by
   obtain ⟨d, it, fr, wh, od, li⟩ := q
   exact (fq_parts hq).2.2.2.2.2.2.2
  have := sm_q (gn := ndE) (g := tkE full) hq hlim fun x hx => he x (hb x hx) (hrg x (.inl (.inl (.inl hx))))
  exact this.le (by omega)
 ·simp only [nameB, decide_eq_true_eq] at hn
  have hnm : (nT table).text.size ≤ 40 := by show table.size ≤ 40; omega
  have sw := sm_wh (gn := ndE) (g := tkE full) (l := where2) fun x hx => he x (h4 x hx) (hrg x (.inr hx))
  rcases hk with ⟨rfl, hl, h12⟩ | ⟨rfl, hl, hsl, hc⟩ | rfl
  ·have sr := sm_rows (gn := ndE) (g := tkE full) h12 fun x hx => he x (h2 x hx) (hrg x (.inl (.inl (.inr hx))))
   exact (Sm.cons (sm_key 23) (Sm.cons (sm_key 24) (Sm.cons hnm (Sm.cons (sm_key 25) sr)))).le (by omega)
  ·have ss := sm_sets (gn := ndE) (g := tkE full) hc hsl fun x hx => he x (h3 x hx) (hrg x (.inl (.inr hx)))
   exact (Sm.cons (sm_key 26) (Sm.cons hnm (Sm.cons (sm_key 27) (ss.app sw)))).le (by omega)
  ·exact (Sm.cons (sm_key 28) (Sm.cons (sm_key 3) (Sm.cons hnm sw))).le (by omega)
set_option maxHeartbeats 4000000 in
theorem l11Rows_d (full : Bool) (rows : List ERow) (g : Expr → List Tok) (hsz : szERows rows ≤ 1048576) (hg : ∀ x ∈ rows.flatMap ERow.l, TkC full x (g x)) (out : List Tok) (hroom : out.length + (seqN (rowsF g rows) rows.length).length ≤ 1000000) : Cl Tryz.prog 95 [.c (.ow 72 (out).length ((out).flatMap Tok.row) none), .c (.sl rows.length (rows.flatMap ERow.row) none), vb full] [] fun r _ => r = .c (.ow 72 (out ++ seqN (rowsF g rows) rows.length).length ((out ++ seqN (rowsF g rows) rows.length).flatMap Tok.row) none) := by
 have hrn := rows_len rows
 refine cl_of_d follows_mixed false Tryz.func95 rfl (by kernel_rfl) ?_
 simp only [Tryz.f95, tt, seval]
 refine dLoop.gh [.ren 9500 53] ⟨by decide, by decide, ?_⟩
 refine dLoop0.intro (fun f L p => ∃ (i : Nat) (es : List Tok), f 7 = vi i ∧ f 0 = .c (.s 53 es.length) ∧ i ≤ rows.length ∧ es = out ++ seqN (rowsF g rows) i ∧ L = [(53, .arr 72 (es).length ((es).flatMap Tok.row) none)] ∧ p = none) (fun f _ _ => (rows.length - ixS (f 7)).toNat) [(53, .arr 72 (out).length ((out).flatMap Tok.row) none)] none ⟨SubO.cons rfl (SubO.nil _), PoSub.none _, ?_⟩ ?_
 ·simp only [tt, seval]
  exact ⟨0, out, rfl, rfl, by omega, (List.append_nil _).symm, rfl⟩
 ·rintro g1 L p ⟨i, eo, h7, h0, hi, heo, rfl, rfl⟩
  simp only [tt, seval] at h7 h0
  simp only [tt, seval, h7, h0, Int.ofNat_lt]
  refine fun _ => And.intro (fun hlt => ?_) (fun hge => ?_)
  ·have hlt : i < rows.length := by omega
   have hst := seqN_succ (rowsF g rows) i
   have hltr := seqN_lt (rowsF g rows) hlt
   have helo : eo.length = out.length + (seqN (rowsF g rows) i).length := by rw [heo, List.length_append]
   obtain ⟨it, hit⟩ : ∃ it, it = rows[i] := ⟨_, rfl⟩
   have hx : rows[i]? = some it := by rw [hit]; exact List.getElem?_eq_getElem hlt
   have hmem : it ∈ rows := by rw [hit]; exact List.getElem_mem hlt
   have hss : rowsF g rows i = cmL i ++ rowT g it := by rw [rowsF, atL_get hlt, hit]
   rw [hss, rowT] at hltr
   have hgi : ∀ x ∈ it.l, TkC full x (g x) := fun x hx => hg x (List.mem_flatMap.2 ⟨_, hmem, hx⟩)
   have hil := mem_sz szERow hmem
   rw [szERow_eq, szExprs_eq] at hil
   rw [szERows_eq] at hsz
   have hl9 : (it.l.length ≤ 9223372036854775807) = True := eq_true (by omega)
   have i0 : ((0 : Int) ≤ (i : Int)) = True := eq_true (by omega)
   have iL : ((i : Int) < (rows.length : Int)) = True := eq_true (by omega)
   have iT : (i < rows.length) = True := eq_true hlt
   refine And.intro (fun hc => ?_) (fun hc => ?_)
   ·have hcl : cmL i = [(Tok.mk 5 ⟨#[44]⟩ 0)] := if_pos (by omega)
    rw [hcl] at hltr
    simp only [ll] at hltr
    try simp only [tt, seval, h7, h0]
    refine call0 (l10Sign_d ⟨#[44]⟩) ?_ ?_ ?_
    ·decide
    ·simp only [tt, seval, kT, gT, nT, iT, Tok.row, h7, h0]
    rintro r rfl
    simp only [tt, seval, kT, gT, nT, iT, Tok.row, h7, h0]
    refine ⟨by kernel_rfl, ⟨by simp only [maxLen]; (try simp only [ll] at *); omega, by (try simp only [ll] at *); omega⟩, ?_⟩
    rw [tok1 (eo), len1 (eo) (Tok.mk 5 ⟨#[44]⟩ 0)]
    try simp only [tt, seval, h7, h0, idxAt hx ERow.row_len, i0, iL, iT, erowE, hl9]
    try simp only [tt, seval, h7, h0]
    refine call0 (l10Sign_d ⟨#[40]⟩) ?_ ?_ ?_
    ·decide
    ·simp only [tt, seval, kT, gT, nT, iT, Tok.row, h7, h0]
    rintro r rfl
    simp only [tt, seval, kT, gT, nT, iT, Tok.row, h7, h0]
    refine ⟨by kernel_rfl, ⟨by simp only [maxLen]; (try simp only [ll] at *); omega, by (try simp only [ll] at *); omega⟩, ?_⟩
    rw [tok1 (eo ++ [(Tok.mk 5 ⟨#[44]⟩ 0)]), len1 (eo ++ [(Tok.mk 5 ⟨#[44]⟩ 0)]) (Tok.mk 5 ⟨#[40]⟩ 0)]
    try simp only [tt, seval, h7, h0]
    obtain ⟨L1, hL1⟩ : ∃ L1, L1 = eo ++ [(Tok.mk 5 ⟨#[44]⟩ 0)] ++ [(Tok.mk 5 ⟨#[40]⟩ 0)] := ⟨_, rfl⟩
    have hl1 : L1.length = eo.length + 2 := by rw [hL1]; simp only [ll]
    rw [← hL1]
    refine dLoop.gh [.ren 24 10049] ⟨by decide, by decide, ?_⟩
    refine dLoop0.intro (fun f L p => ∃ (j : Nat) (es : List Tok), f 8 = vi j ∧ f 0 = .c (.s 10049 es.length) ∧ j ≤ it.l.length ∧ es = L1 ++ seqN (elF g it.l) j ∧ L = [(10049, .arr 72 (es).length ((es).flatMap Tok.row) none)] ∧ p = none) (fun f _ _ => (it.l.length - ixS (f 8)).toNat) [(10049, .arr 72 (L1).length ((L1).flatMap Tok.row) none)] none ⟨SubO.cons rfl (SubO.nil _), PoSub.none _, ?_⟩ ?_
    ·simp only [tt, seval, h7]
     exact ⟨0, L1, rfl, rfl, by omega, (List.append_nil _).symm, rfl⟩
    ·rintro g2 L p ⟨j, es, h8, h0, hj, hes1, rfl, rfl⟩
     simp only [tt, seval] at h8 h0
     simp only [tt, seval, h7, h8, h0, idxAt hx ERow.row_len, i0, iL, iT, erowE, hl9, Int.ofNat_lt]
     refine And.intro (fun hlt => ?_) (fun hge => ?_)
     ·have hlt : j < it.l.length := by omega
      have hst2 := seqN_succ (elF g it.l) j
      have hlt2 := seqN_lt (elF g it.l) hlt
      have hel1 : es.length = L1.length + (seqN (elF g it.l) j).length := by rw [hes1, List.length_append]
      obtain ⟨e, he⟩ : ∃ e, e = it.l[j] := ⟨_, rfl⟩
      have hy : it.l[j]? = some e := by rw [he]; exact List.getElem?_eq_getElem hlt
      have hel2 : elF g it.l j = cmL j ++ g e := by rw [elF, atL_get hlt, he]
      rw [hel2] at hlt2
      have hge : ∀ out : List Tok, out.length + (g e).length ≤ 1000000 → Cl Tryz.prog 66 [.c (.ow 72 (out).length ((out).flatMap Tok.row) none), .ag (csOf e.row), vb full] [] fun r _ => r = .c (.ow 72 (out ++ g e).length ((out ++ g e).flatMap Tok.row) none) := hgi e (by rw [he]; exact List.getElem_mem hlt)
      have j0 : ((0 : Int) ≤ (j : Int)) = True := eq_true (by omega)
      have jL : ((j : Int) < (it.l.length : Int)) = True := eq_true (by omega)
      have jT : (j < it.l.length) = True := eq_true hlt
      refine And.intro (fun hc => ?_) (fun hc => ?_)
      ·have hcl : cmL j = [(Tok.mk 5 ⟨#[44]⟩ 0)] := if_pos (by omega)
       rw [hcl] at hlt2 hel2
       simp only [ll] at hlt2
       try simp only [tt, seval, h7, h8, h0]
       refine call0 (l10Sign_d ⟨#[44]⟩) ?_ ?_ ?_
       ·decide
       ·simp only [tt, seval, kT, gT, nT, iT, Tok.row, h7, h8, h0]
       rintro r rfl
       simp only [tt, seval, kT, gT, nT, iT, Tok.row, h7, h8, h0]
       refine ⟨by kernel_rfl, ⟨by simp only [maxLen]; (try simp only [ll] at *); omega, by (try simp only [ll] at *); omega⟩, ?_⟩
       rw [tok1 (es), len1 (es) (Tok.mk 5 ⟨#[44]⟩ 0)]
       try simp only [tt, seval, h7, h8, h0, idxAt hx ERow.row_len, i0, iL, iT, erowE, hl9, idxAt hy Expr.row_len, j0, jL, jT, Expr.tk, Expr.row_len]
       try simp only [tt, seval, h7, h8, h0, idxAt hx ERow.row_len, i0, iL, iT, erowE, hl9, idxAt hy Expr.row_len, j0, jL, jT, Expr.tk, Expr.row_len]
       refine call0 (hge (es ++ [(Tok.mk 5 ⟨#[44]⟩ 0)]) (by (try simp only [ll] at *); omega)) ?_ ?_ ?_
       ·decide
       ·simp only [tt, seval, h7, h8, h0]
       rintro r rfl
       simp only [tt, seval, h7, h8, h0]
       try rw [wrap_id (n := (j : Int) + 1) (by omega) (by omega)]
       exact ⟨[(10049, .arr 72 (es ++ [(Tok.mk 5 ⟨#[44]⟩ 0)] ++ g e).length ((es ++ [(Tok.mk 5 ⟨#[44]⟩ 0)] ++ g e).flatMap Tok.row) none)], none, SubO.cons rfl (SubO.nil _), PoSub.none _, ⟨j + 1, es ++ [(Tok.mk 5 ⟨#[44]⟩ 0)] ++ g e, rfl, rfl, by omega, by rw [hst2, hes1, hel2]; simp [cmT, gT, List.append_assoc], rfl, rfl⟩, by simp only [ixS]; omega⟩
      ·have hcl : cmL j = [] := if_neg (by omega)
       rw [hcl] at hlt2 hel2
       simp only [ll] at hlt2
       try simp only [tt, seval, h7, h8, h0, idxAt hx ERow.row_len, i0, iL, iT, erowE, hl9, idxAt hy Expr.row_len, j0, jL, jT, Expr.tk, Expr.row_len]
       refine call0 (hge (es) (by (try simp only [ll] at *); omega)) ?_ ?_ ?_
       ·decide
       ·simp only [tt, seval, h7, h8, h0]
       rintro r rfl
       simp only [tt, seval, h7, h8, h0]
       try rw [wrap_id (n := (j : Int) + 1) (by omega) (by omega)]
       exact ⟨[(10049, .arr 72 (es ++ g e).length ((es ++ g e).flatMap Tok.row) none)], none, SubO.cons rfl (SubO.nil _), PoSub.none _, ⟨j + 1, es ++ g e, rfl, rfl, by omega, by rw [hst2, hes1, hel2]; simp [cmT, gT, List.append_assoc], rfl, rfl⟩, by simp only [ixS]; omega⟩
     ·have hje : j = it.l.length := by omega
      subst hje
      have hel1 : es.length = L1.length + (seqN (elF g it.l) it.l.length).length := by rw [hes1, List.length_append]
      try simp only [tt, seval, h7, h8, h0]
      refine call0 (l10Sign_d ⟨#[41]⟩) ?_ ?_ ?_
      ·decide
      ·simp only [tt, seval, kT, gT, nT, iT, Tok.row, h7, h8, h0]
      rintro r rfl
      simp only [tt, seval, kT, gT, nT, iT, Tok.row, h7, h8, h0]
      refine ⟨by kernel_rfl, ⟨by simp only [maxLen]; (try simp only [ll] at *); omega, by (try simp only [ll] at *); omega⟩, ?_⟩
      rw [tok1 (es), len1 (es) (Tok.mk 5 ⟨#[41]⟩ 0)]
      try simp only [tt, seval, h7, h8, h0]
      try rw [wrS i (by omega)]
      exact ⟨[(53, .arr 72 (es ++ [(Tok.mk 5 ⟨#[41]⟩ 0)]).length ((es ++ [(Tok.mk 5 ⟨#[41]⟩ 0)]).flatMap Tok.row) none)], none, SubO.cons rfl (SubO.nil _), PoSub.none _, ⟨i + 1, es ++ [(Tok.mk 5 ⟨#[41]⟩ 0)], rfl, rfl, by omega, by rw [hst, hss, hcl, heo, rowT] at *; rw [hes1, hL1]; simp [cmT, gT, lpT, rpT, List.append_assoc], rfl, rfl⟩, by simp only [ixS]; omega⟩
   ·have hcl : cmL i = [] := if_neg (by omega)
    rw [hcl] at hltr
    simp only [ll] at hltr
    try simp only [tt, seval, h7, h0]
    refine call0 (l10Sign_d ⟨#[40]⟩) ?_ ?_ ?_
    ·decide
    ·simp only [tt, seval, kT, gT, nT, iT, Tok.row, h7, h0]
    rintro r rfl
    simp only [tt, seval, kT, gT, nT, iT, Tok.row, h7, h0]
    refine ⟨by kernel_rfl, ⟨by simp only [maxLen]; (try simp only [ll] at *); omega, by (try simp only [ll] at *); omega⟩, ?_⟩
    rw [tok1 (eo), len1 (eo) (Tok.mk 5 ⟨#[40]⟩ 0)]
    try simp only [tt, seval, h7, h0]
    obtain ⟨L1, hL1⟩ : ∃ L1, L1 = eo ++ [(Tok.mk 5 ⟨#[40]⟩ 0)] := ⟨_, rfl⟩
    have hl1 : L1.length = eo.length + 1 := by rw [hL1]; simp only [ll]
    rw [← hL1]
    refine dLoop.gh [.ren 24 10049] ⟨by decide, by decide, ?_⟩
    refine dLoop0.intro (fun f L p => ∃ (j : Nat) (es : List Tok), f 8 = vi j ∧ f 0 = .c (.s 10049 es.length) ∧ j ≤ it.l.length ∧ es = L1 ++ seqN (elF g it.l) j ∧ L = [(10049, .arr 72 (es).length ((es).flatMap Tok.row) none)] ∧ p = none) (fun f _ _ => (it.l.length - ixS (f 8)).toNat) [(10049, .arr 72 (L1).length ((L1).flatMap Tok.row) none)] none ⟨SubO.cons rfl (SubO.nil _), PoSub.none _, ?_⟩ ?_
    ·simp only [tt, seval, h7]
     exact ⟨0, L1, rfl, rfl, by omega, (List.append_nil _).symm, rfl⟩
    ·rintro g2 L p ⟨j, es, h8, h0, hj, hes1, rfl, rfl⟩
     simp only [tt, seval] at h8 h0
     simp only [tt, seval, h7, h8, h0, idxAt hx ERow.row_len, i0, iL, iT, erowE, hl9, Int.ofNat_lt]
     refine And.intro (fun hlt => ?_) (fun hge => ?_)
     ·have hlt : j < it.l.length := by omega
      have hst2 := seqN_succ (elF g it.l) j
      have hlt2 := seqN_lt (elF g it.l) hlt
      have hel1 : es.length = L1.length + (seqN (elF g it.l) j).length := by rw [hes1, List.length_append]
      obtain ⟨e, he⟩ : ∃ e, e = it.l[j] := ⟨_, rfl⟩
      have hy : it.l[j]? = some e := by rw [he]; exact List.getElem?_eq_getElem hlt
      have hel2 : elF g it.l j = cmL j ++ g e := by rw [elF, atL_get hlt, he]
      rw [hel2] at hlt2
      have hge : ∀ out : List Tok, out.length + (g e).length ≤ 1000000 → Cl Tryz.prog 66 [.c (.ow 72 (out).length ((out).flatMap Tok.row) none), .ag (csOf e.row), vb full] [] fun r _ => r = .c (.ow 72 (out ++ g e).length ((out ++ g e).flatMap Tok.row) none) := hgi e (by rw [he]; exact List.getElem_mem hlt)
      have j0 : ((0 : Int) ≤ (j : Int)) = True := eq_true (by omega)
      have jL : ((j : Int) < (it.l.length : Int)) = True := eq_true (by omega)
      have jT : (j < it.l.length) = True := eq_true hlt
      refine And.intro (fun hc => ?_) (fun hc => ?_)
      ·have hcl : cmL j = [(Tok.mk 5 ⟨#[44]⟩ 0)] := if_pos (by omega)
       rw [hcl] at hlt2 hel2
       simp only [ll] at hlt2
       try simp only [tt, seval, h7, h8, h0]
       refine call0 (l10Sign_d ⟨#[44]⟩) ?_ ?_ ?_
       ·decide
       ·simp only [tt, seval, kT, gT, nT, iT, Tok.row, h7, h8, h0]
       rintro r rfl
       simp only [tt, seval, kT, gT, nT, iT, Tok.row, h7, h8, h0]
       refine ⟨by kernel_rfl, ⟨by simp only [maxLen]; (try simp only [ll] at *); omega, by (try simp only [ll] at *); omega⟩, ?_⟩
       rw [tok1 (es), len1 (es) (Tok.mk 5 ⟨#[44]⟩ 0)]
       try simp only [tt, seval, h7, h8, h0, idxAt hx ERow.row_len, i0, iL, iT, erowE, hl9, idxAt hy Expr.row_len, j0, jL, jT, Expr.tk, Expr.row_len]
       try simp only [tt, seval, h7, h8, h0, idxAt hx ERow.row_len, i0, iL, iT, erowE, hl9, idxAt hy Expr.row_len, j0, jL, jT, Expr.tk, Expr.row_len]
       refine call0 (hge (es ++ [(Tok.mk 5 ⟨#[44]⟩ 0)]) (by (try simp only [ll] at *); omega)) ?_ ?_ ?_
       ·decide
       ·simp only [tt, seval, h7, h8, h0]
       rintro r rfl
       simp only [tt, seval, h7, h8, h0]
       try rw [wrap_id (n := (j : Int) + 1) (by omega) (by omega)]
       exact ⟨[(10049, .arr 72 (es ++ [(Tok.mk 5 ⟨#[44]⟩ 0)] ++ g e).length ((es ++ [(Tok.mk 5 ⟨#[44]⟩ 0)] ++ g e).flatMap Tok.row) none)], none, SubO.cons rfl (SubO.nil _), PoSub.none _, ⟨j + 1, es ++ [(Tok.mk 5 ⟨#[44]⟩ 0)] ++ g e, rfl, rfl, by omega, by rw [hst2, hes1, hel2]; simp [cmT, gT, List.append_assoc], rfl, rfl⟩, by simp only [ixS]; omega⟩
      ·have hcl : cmL j = [] := if_neg (by omega)
       rw [hcl] at hlt2 hel2
       simp only [ll] at hlt2
       try simp only [tt, seval, h7, h8, h0, idxAt hx ERow.row_len, i0, iL, iT, erowE, hl9, idxAt hy Expr.row_len, j0, jL, jT, Expr.tk, Expr.row_len]
       refine call0 (hge (es) (by (try simp only [ll] at *); omega)) ?_ ?_ ?_
       ·decide
       ·simp only [tt, seval, h7, h8, h0]
       rintro r rfl
       simp only [tt, seval, h7, h8, h0]
       try rw [wrap_id (n := (j : Int) + 1) (by omega) (by omega)]
       exact ⟨[(10049, .arr 72 (es ++ g e).length ((es ++ g e).flatMap Tok.row) none)], none, SubO.cons rfl (SubO.nil _), PoSub.none _, ⟨j + 1, es ++ g e, rfl, rfl, by omega, by rw [hst2, hes1, hel2]; simp [cmT, gT, List.append_assoc], rfl, rfl⟩, by simp only [ixS]; omega⟩
     ·have hje : j = it.l.length := by omega
      subst hje
      have hel1 : es.length = L1.length + (seqN (elF g it.l) it.l.length).length := by rw [hes1, List.length_append]
      try simp only [tt, seval, h7, h8, h0]
      refine call0 (l10Sign_d ⟨#[41]⟩) ?_ ?_ ?_
      ·decide
      ·simp only [tt, seval, kT, gT, nT, iT, Tok.row, h7, h8, h0]
      rintro r rfl
      simp only [tt, seval, kT, gT, nT, iT, Tok.row, h7, h8, h0]
      refine ⟨by kernel_rfl, ⟨by simp only [maxLen]; (try simp only [ll] at *); omega, by (try simp only [ll] at *); omega⟩, ?_⟩
      rw [tok1 (es), len1 (es) (Tok.mk 5 ⟨#[41]⟩ 0)]
      try simp only [tt, seval, h7, h8, h0]
      try rw [wrS i (by omega)]
      exact ⟨[(53, .arr 72 (es ++ [(Tok.mk 5 ⟨#[41]⟩ 0)]).length ((es ++ [(Tok.mk 5 ⟨#[41]⟩ 0)]).flatMap Tok.row) none)], none, SubO.cons rfl (SubO.nil _), PoSub.none _, ⟨i + 1, es ++ [(Tok.mk 5 ⟨#[41]⟩ 0)], rfl, rfl, by omega, by rw [hst, hss, hcl, heo, rowT] at *; rw [hes1, hL1]; simp [cmT, gT, lpT, rpT, List.append_assoc], rfl, rfl⟩, by simp only [ixS]; omega⟩
  ·have hie : i = rows.length := by omega
   subst hie
   subst heo
   try simp only [tt, seval, h7, h0]
   refine ⟨_, [], owE (l := out ++ seqN (rowsF g rows) rows.length) (by rfl), endOk ?_⟩
   simp only [tt, seval, h7, h0]
set_option maxHeartbeats 8000000 in
theorem l11Stmt_d (full : Bool) (s : Stmt) (hok : stOk s = true) (hr : RgS s) (hsz : szStmt s ≤ 1048576) : Cl Tryz.prog 45 [.ag (csOf s.row), vb full] [] fun r _ => r = .c (.ow 72 (stTok (tkE full) s).length ((stTok (tkE full) s).flatMap Tok.row) none) := by
 have hlen := (st_sm full hok hr).1
 have hex := fun x hx => stExprs_sz (s := s) (x := x) hx
 obtain ⟨_, hp⟩ := st_parts hok
 obtain ⟨kind, q, table, rows, cols, sets, where2⟩ := s
 obtain ⟨hlim, hrg⟩ := hr
 have hss := hsz
 rw [szStmt_mk] at hss
 simp only [stExprs, List.mem_append] at hrg hex
 have hT : ∀ x, fmE x = true → Rg x → szExpr x ≤ 1048576 → TkC full x (tkE full x) := fun x => l10Expr_d full x
 have hQ : fmQ fmE q = true → TkQ full q (quT (tkE full) q) := fun hq => by
  have hb : ∀ x ∈ exprsQ q, fmE x = true := by
   obtain ⟨d, it, fr, wh, od, li⟩ := q
   exact (fq_parts hq).2.2.2.2.2.2.2
  exact l10Query_step full fmE (tkE full) q hq hlim (by omega) fun x hx => hT x (hb x hx) (hrg x (.inl (.inl (.inl hx)))) (Nat.le_trans (hex x (.inl (.inl (.inl hx)))) hsz)
 have hT2 : ∀ x, fmE x = true → (((x ∈ exprsQ q ∨ x ∈ rows.flatMap ERow.l) ∨ x ∈ sets) ∨ x ∈ where2) → TkC full x (tkE full x) := fun x hf hm => hT x hf (hrg x hm) (Nat.le_trans (hex x hm) hsz)
 generalize tkE full = g at *
 have hsr : szERows rows ≤ 1048576 := by omega
 have hwl : where2.length ≤ 1048576 := by rw [szExprs_eq, szExprs_eq] at hss; omega
 have hcl9 : cols.length ≤ 1048576 := by unfold szTexts at hss; omega
 clear hT hex hss
 rcases hp with ⟨rfl, hq⟩ | ⟨k1, hn, h2, h3, h4, hk⟩
 ·have hq := hQ hq
  obtain ⟨distinct, items, from_, where_, order, limit⟩ := q
  have hq : ∀ out : List Tok, out.length + (quT g (Query.mk distinct items from_ where_ order limit)).length ≤ 1000000 → Cl Tryz.prog 25 [.c (.ow 72 (out).length ((out).flatMap Tok.row) none), .ag (csOf (Query.mk distinct items from_ where_ order limit).row), vb full] [] fun r _ => r = .c (.ow 72 (out ++ quT g (Query.mk distinct items from_ where_ order limit)).length ((out ++ quT g (Query.mk distinct items from_ where_ order limit)).flatMap Tok.row) none) := hq
  rw [Query.row_mk] at hq
  rw [Stmt.row_mk, Query.row_mk]
  simp only [List.cons_append, List.nil_append]
  have e : stTok g (Stmt.mk 1 (Query.mk distinct items from_ where_ order limit) table rows cols sets where2) = quT g (Query.mk distinct items from_ where_ order limit) := rfl
  rw [e] at hlen ⊢
  clear e
  refine cl_of_d follows_mixed false Tryz.func45 rfl (by kernel_rfl) ?_
  simp only [Tryz.f45, tt, seval]
  refine call0 (hq [] (by simp only [List.length_nil]; omega)) ?_ ?_ ?_
  ·decide
  ·simp only [tt, seval, Query.row_mk, List.length_cons, List.length_nil, List.flatMap_cons, List.flatMap_nil, List.cons_append, List.nil_append, Tok.row]
  rintro r rfl
  simp only [tt, seval, Query.row_mk, List.length_cons, List.length_nil, List.flatMap_cons, List.flatMap_nil, List.cons_append, List.nil_append, Tok.row]
  refine ⟨_, [], owE (l := [] ++ quT g (Query.mk distinct items from_ where_ order limit)) (by simp), endOk ?_⟩
  simp only [tt, seval, List.nil_append]
 have hgR : ∀ x ∈ rows.flatMap ERow.l, TkC full x (g x) := fun x hx => hT2 x (h2 x hx) (.inl (.inl (.inr hx)))
 have hgT : ∀ x ∈ sets, TkC full x (g x) := fun x hx => hT2 x (h3 x hx) (.inl (.inr hx))
 have hgW : ∀ x ∈ where2, TkC full x (g x) := fun x hx => hT2 x (h4 x hx) (.inr hx)
 obtain ⟨distinct, items, from_, where_, order, limit⟩ := q
 rw [Stmt.row_mk, Query.row_mk]
 simp only [List.cons_append, List.nil_append]
 rcases hk with ⟨rfl, hl, h12⟩ | ⟨rfl, hl, hsl, hc⟩ | rfl
 ·skip
  have e : stTok g (Stmt.mk 2 (Query.mk distinct items from_ where_ order limit) table rows cols sets where2) = kT 23 :: kT 24 :: nT table :: kT 25 :: seqN (rowsF g rows) rows.length := rfl
  rw [e] at hlen ⊢
  clear e
  refine cl_of_d follows_mixed false Tryz.func45 rfl (by kernel_rfl) ?_
  simp only [Tryz.f45, tt, seval]
  simp only [ll] at hlen
  apply dDrawn_j3 5 2 1
  case h1 =>
   refine dDrawn.intro [] (pln [0, 6, 8, 3, 5, 11, 13, 15, 17, 18]) (by kernel_rfl) ?_
   simp only [tt, seval]
   all_goals repeat' first | refine brC ?_ ?_ | refine brC2 ?_ ?_
   all_goals
    refine call0 (l10Key_d 23 (by omega) (by omega)) ?_ ?_ ?_
    ·decide
    ·simp only [tt, seval, kT, gT, nT, iT, Tok.row]
    rintro r rfl
    simp only [tt, seval, kT, gT, nT, iT, Tok.row]
   all_goals repeat' first | refine brC ?_ ?_ | refine brC2 ?_ ?_
   all_goals
    refine call0 (l10Key_d 24 (by omega) (by omega)) ?_ ?_ ?_
    ·decide
    ·simp only [tt, seval, kT, gT, nT, iT, Tok.row]
    rintro r rfl
    simp only [tt, seval, kT, gT, nT, iT, Tok.row]
   all_goals repeat' first | refine brC ?_ ?_ | refine brC2 ?_ ?_
   all_goals
    refine call0 (l10Name_d table) ?_ ?_ ?_
    ·decide
    ·simp only [tt, seval, kT, gT, nT, iT, Tok.row]
    rintro r rfl
    simp only [tt, seval, kT, gT, nT, iT, Tok.row]
   all_goals repeat' first | refine brC ?_ ?_ | refine brC2 ?_ ?_
   all_goals
    refine call0 (l10Key_d 25 (by omega) (by omega)) ?_ ?_ ?_
    ·decide
    ·simp only [tt, seval, kT, gT, nT, iT, Tok.row]
    rintro r rfl
    simp only [tt, seval, kT, gT, nT, iT, Tok.row]
   all_goals repeat' first | refine brA ?_ ?_ | refine brA2 ?_ ?_ | refine brA3 ?_ ?_
   all_goals
    refine ⟨by kernel_rfl, ⟨by simp only [maxLen]; omega, by omega⟩, ?_⟩
    try simp only [tt, seval]
   all_goals exact ⟨rfl, rfl, rfl, rfl, rfl⟩
  case h2 =>
   intro f' hj0 hj1 hj2
   try simp only [tt, seval, hj0, hj1, hj2]
   refine call0 (l11Rows_d full rows g hsr hgR [(Tok.mk 1 (kw 23) 0), (Tok.mk 1 (kw 24) 0), (Tok.mk 2 table 0), (Tok.mk 1 (kw 25) 0)] (by simp only [ll]; omega)) ?_ ?_ ?_
   ·decide
   ·simp only [tt, seval, hj0, hj1, hj2, List.length_cons, List.length_nil, List.flatMap_cons, List.flatMap_nil, List.cons_append, List.nil_append, Tok.row]
   rintro r rfl
   simp only [tt, seval, hj0, hj1, hj2, List.length_cons, List.length_nil, List.flatMap_cons, List.flatMap_nil, List.cons_append, List.nil_append, Tok.row]
   refine ⟨_, [], owE (l := [(Tok.mk 1 (kw 23) 0), (Tok.mk 1 (kw 24) 0), (Tok.mk 2 table 0), (Tok.mk 1 (kw 25) 0)] ++ seqN (rowsF g rows) rows.length) (by rfl), endOk ?_⟩
   simp only [tt, seval, List.length_cons, List.length_nil, List.flatMap_cons, List.flatMap_nil, List.cons_append, List.nil_append, Tok.row, hj0, hj1, hj2]
 ·skip
  have e : stTok g (Stmt.mk 3 (Query.mk distinct items from_ where_ order limit) table rows cols sets where2) = kT 26 :: nT table :: kT 27 :: (seqN (setF' g cols sets) cols.length ++ whL g where2) := rfl
  rw [e] at hlen ⊢
  clear e
  refine cl_of_d follows_mixed false Tryz.func45 rfl (by kernel_rfl) ?_
  simp only [Tryz.f45, tt, seval]
  simp only [ll] at hlen
  apply dDrawn_j3 5 2 1
  case h1 =>
   refine dDrawn.intro [] (pln [0, 4, 6, 3, 9, 11, 13, 15, 16]) (by kernel_rfl) ?_
   simp only [tt, seval]
   all_goals repeat' first | refine brC ?_ ?_ | refine brC2 ?_ ?_
   all_goals
    refine call0 (l10Key_d 26 (by omega) (by omega)) ?_ ?_ ?_
    ·decide
    ·simp only [tt, seval, kT, gT, nT, iT, Tok.row]
    rintro r rfl
    simp only [tt, seval, kT, gT, nT, iT, Tok.row]
   all_goals repeat' first | refine brC ?_ ?_ | refine brC2 ?_ ?_
   all_goals
    refine call0 (l10Name_d table) ?_ ?_ ?_
    ·decide
    ·simp only [tt, seval, kT, gT, nT, iT, Tok.row]
    rintro r rfl
    simp only [tt, seval, kT, gT, nT, iT, Tok.row]
   all_goals repeat' first | refine brC ?_ ?_ | refine brC2 ?_ ?_
   all_goals
    refine call0 (l10Key_d 27 (by omega) (by omega)) ?_ ?_ ?_
    ·decide
    ·simp only [tt, seval, kT, gT, nT, iT, Tok.row]
    rintro r rfl
    simp only [tt, seval, kT, gT, nT, iT, Tok.row]
   all_goals repeat' first | refine brA ?_ ?_ | refine brA2 ?_ ?_ | refine brA3 ?_ ?_
   all_goals
    refine ⟨by kernel_rfl, ⟨by simp only [maxLen]; omega, by omega⟩, ?_⟩
    try simp only [tt, seval]
   all_goals exact ⟨rfl, rfl, rfl, rfl, rfl⟩
  case h2 =>
   intro f' hj0 hj1 hj2
   try simp only [tt, seval, hj0, hj1, hj2]
   obtain ⟨L1, hL1⟩ : ∃ L1, L1 = ([(Tok.mk 1 (kw 26) 0), (Tok.mk 2 table 0), (Tok.mk 1 (kw 27) 0)] : List Tok) := ⟨_, rfl⟩
   have hl1 : L1.length = 3 := by rw [hL1]; rfl
   have hds : [(Tok.mk 1 (kw 26) 0), (Tok.mk 2 table 0), (Tok.mk 1 (kw 27) 0)].flatMap Tok.row = L1.flatMap Tok.row := by rw [hL1]
   simp only [List.length_cons, List.length_nil, List.flatMap_cons, List.flatMap_nil, List.cons_append, List.nil_append, Tok.row] at hds
   refine dLoop.gh [.ren 42 10072] ⟨by decide, by decide, ?_⟩
   refine dLoop0.intro (fun f L p => ∃ (i : Nat) (es : List Tok), f 6 = vi i ∧ f 5 = .c (.s 10072 es.length) ∧ i ≤ cols.length ∧ es = L1 ++ seqN (setF' g cols sets) i ∧ L = [(10072, .arr 72 (es).length ((es).flatMap Tok.row) none), (2, .str [.v (.int .i64 3), .v (.bool distinct), .sl items.length (items.flatMap Item.row) none, .sl from_.length (from_.flatMap Source.row) none, .sl where_.length (where_.flatMap Expr.row) none, .sl order.length (order.flatMap SortKey.row) none, .v (.int .i64 limit), .v (.string table), .sl rows.length (rows.flatMap ERow.row) none, .sl cols.length (cols.flatMap srow) none, .sl sets.length (sets.flatMap Expr.row) none, .sl where2.length (where2.flatMap Expr.row) none])] ∧ p = none) (fun f _ _ => (cols.length - ixS (f 6)).toNat) [(10072, .arr 72 (L1).length ((L1).flatMap Tok.row) none), (2, .str [.v (.int .i64 3), .v (.bool distinct), .sl items.length (items.flatMap Item.row) none, .sl from_.length (from_.flatMap Source.row) none, .sl where_.length (where_.flatMap Expr.row) none, .sl order.length (order.flatMap SortKey.row) none, .v (.int .i64 limit), .v (.string table), .sl rows.length (rows.flatMap ERow.row) none, .sl cols.length (cols.flatMap srow) none, .sl sets.length (sets.flatMap Expr.row) none, .sl where2.length (where2.flatMap Expr.row) none])] none ⟨?_, PoSub.none _, ?_⟩ ?_
   ·rw [← hds, hl1]
    exact SubO.cons rfl (SubO.cons rfl (SubO.nil _))
   ·simp only [tt, seval, hj0, hj1, hj2]
    exact ⟨0, L1, rfl, by rw [hl1], by omega, (List.append_nil _).symm, rfl⟩
   rintro g' L p ⟨i, es, h6, h5, hi, hes0, rfl, rfl⟩
   simp only [tt, seval] at h6 h5
   simp only [tt, seval, h6, h5, hj1, hj2, Int.ofNat_lt]
   refine fun _ => And.intro (fun hlt => ?_) (fun hge => ?_)
   ·have hlt : i < cols.length := by omega
    have hls : i < sets.length := by omega
    have hst := seqN_succ (setF' g cols sets) i
    have hlt2 := seqN_lt (setF' g cols sets) hlt
    have hel : es.length = L1.length + (seqN (setF' g cols sets) i).length := by rw [hes0, List.length_append]
    obtain ⟨c, hc⟩ : ∃ c, c = cols[i] := ⟨_, rfl⟩
    have hxc : cols[i]? = some c := by rw [hc]; exact List.getElem?_eq_getElem hlt
    obtain ⟨e, he⟩ : ∃ e, e = sets[i] := ⟨_, rfl⟩
    have hxs : sets[i]? = some e := by rw [he]; exact List.getElem?_eq_getElem hls
    have hel2 : setF' g cols sets i = cmL i ++ ([nT c, eqT] ++ g e) := by rw [setF', atL_get hlt, atL_get hls, hc, he]
    rw [hel2] at hlt2
    have hge : ∀ out : List Tok, out.length + (g e).length ≤ 1000000 → Cl Tryz.prog 66 [.c (.ow 72 (out).length ((out).flatMap Tok.row) none), .ag (csOf e.row), vb full] [] fun r _ => r = .c (.ow 72 (out ++ g e).length ((out ++ g e).flatMap Tok.row) none) := hgT e (by rw [he]; exact List.getElem_mem hls)
    have i0 : ((0 : Int) ≤ (i : Int)) = True := eq_true (by omega)
    have iC : ((i : Int) < (cols.length : Int)) = True := eq_true (by omega)
    have iT : (i < cols.length) = True := eq_true hlt
    have iS : (i < sets.length) = True := eq_true hls
    have iS2 : ((i : Int) < (sets.length : Int)) = True := eq_true (by omega)
    refine And.intro (fun hc => ?_) (fun hc => ?_)
    ·have hcl : cmL i = [(Tok.mk 5 ⟨#[44]⟩ 0)] := if_pos (by omega)
     rw [hcl] at hlt2 hel2
     simp only [ll] at hlt2
     try simp only [tt, seval, h6, h5, hj1, hj2]
     refine call0 (l10Sign_d ⟨#[44]⟩) ?_ ?_ ?_
     ·decide
     ·simp only [tt, seval, kT, gT, nT, iT, Tok.row, h6, h5, hj1, hj2]
     rintro r rfl
     simp only [tt, seval, kT, gT, nT, iT, Tok.row, h6, h5, hj1, hj2]
     refine ⟨by kernel_rfl, ⟨by simp only [maxLen]; (try simp only [ll] at *); omega, by (try simp only [ll] at *); omega⟩, ?_⟩
     rw [tok1 (es), len1 (es) (Tok.mk 5 ⟨#[44]⟩ 0)]
     try simp only [tt, seval, h6, h5, hj1, hj2]
     try simp only [tt, seval, h6, h5, hj1, hj2]
     apply dDrawn_j4 5 6 2 1
     case h1 =>
      refine dDrawn.intro [72] (.take 0 (.take 1 (.take 2 (.take 3 (.take 4 (.take 5 (.take 10 (.take 12 (.take 15 (.br 6 (.br 7 (.br 8 (.br 9 (.take 11 (.take 13 (.take 14 (.br 16 (.take 17 .done) .nobr)))) (.br 11 (.take 13 (.br 9 (.take 14 (.br 16 (.take 17 .done) .nobr)) (.br 14 (.br 9 (.br 16 (.take 17 .done) .nobr) .nobr) .nobr))) .nobr)) (.br 11 (.take 13 (.br 8 (.br 9 (.take 14 (.br 16 (.take 17 .done) .nobr)) (.br 14 (.br 9 (.br 16 (.take 17 .done) .nobr) .nobr) .nobr)) (.br 14 (.br 8 (.br 9 (.br 16 (.take 17 .done) .nobr) .nobr) .nobr) .nobr))) .nobr)) (.br 11 (.take 13 (.br 7 (.br 8 (.br 9 (.take 14 (.br 16 (.take 17 .done) .nobr)) (.br 14 (.br 9 (.br 16 (.take 17 .done) .nobr) .nobr) .nobr)) (.br 14 (.br 8 (.br 9 (.br 16 (.take 17 .done) .nobr) .nobr) .nobr) .nobr)) (.br 14 (.br 7 (.br 8 (.br 9 (.br 16 (.take 17 .done) .nobr) .nobr) .nobr) .nobr) .nobr))) .nobr)) (.br 11 (.take 13 (.br 6 (.br 7 (.br 8 (.br 9 (.take 14 (.br 16 (.take 17 .done) .nobr)) (.br 14 (.br 9 (.br 16 (.take 17 .done) .nobr) .nobr) .nobr)) (.br 14 (.br 8 (.br 9 (.br 16 (.take 17 .done) .nobr) .nobr) .nobr) .nobr)) (.br 14 (.br 7 (.br 8 (.br 9 (.br 16 (.take 17 .done) .nobr) .nobr) .nobr) .nobr) .nobr)) (.br 14 (.br 6 (.br 7 (.br 8 (.br 9 (.br 16 (.take 17 .done) .nobr) .nobr) .nobr) .nobr) .nobr) .nobr))) .nobr))))))))))) (by kernel_rfl) ?_
      simp only [tt, seval]
      all_goals try simp only [tt, seval, h6, h5, hj1, hj2, idxAt hxc srow_len, idxAt hxs Expr.row_len, i0, iC, iT, iS, iS2, srow, Expr.tk, Expr.row_len]
      all_goals repeat' first | refine brC ?_ ?_ | refine brC2 ?_ ?_
      all_goals
       refine call0 (l10Name_d c) ?_ ?_ ?_
       ·decide
       ·simp only [tt, seval, kT, gT, nT, iT, Tok.row, h6, h5, hj1, hj2, idxAt hxc srow_len, idxAt hxs Expr.row_len, i0, iC, iT, iS, iS2, srow, Expr.tk, Expr.row_len]
       rintro r rfl
       simp only [tt, seval, kT, gT, nT, iT, Tok.row, h6, h5, hj1, hj2, idxAt hxc srow_len, idxAt hxs Expr.row_len, i0, iC, iT, iS, iS2, srow, Expr.tk, Expr.row_len]
      all_goals repeat' first | refine brC ?_ ?_ | refine brC2 ?_ ?_
      all_goals
       refine call0 (l10Sign_d ⟨#[61]⟩) ?_ ?_ ?_
       ·decide
       ·simp only [tt, seval, kT, gT, nT, iT, Tok.row, h6, h5, hj1, hj2, idxAt hxc srow_len, idxAt hxs Expr.row_len, i0, iC, iT, iS, iS2, srow, Expr.tk, Expr.row_len]
       rintro r rfl
       simp only [tt, seval, kT, gT, nT, iT, Tok.row, h6, h5, hj1, hj2, idxAt hxc srow_len, idxAt hxs Expr.row_len, i0, iC, iT, iS, iS2, srow, Expr.tk, Expr.row_len]
      all_goals repeat' first | refine brA ?_ ?_ | refine brA2 ?_ ?_ | refine brA3 ?_ ?_
      all_goals
       refine ⟨by kernel_rfl, ⟨by simp only [maxLen]; (try simp only [ll] at *); omega, by (try simp only [ll] at *); omega⟩, ?_⟩
       rw [tok2 (es ++ [(Tok.mk 5 ⟨#[44]⟩ 0)]), len2 (es ++ [(Tok.mk 5 ⟨#[44]⟩ 0)]) (Tok.mk 2 c 0) (Tok.mk 5 ⟨#[61]⟩ 0)]
       try simp only [tt, seval, h6, h5, hj1, hj2, idxAt hxc srow_len, idxAt hxs Expr.row_len, i0, iC, iT, iS, iS2, srow, Expr.tk, Expr.row_len]
      all_goals repeat' first | refine brC ?_ ?_ | refine brC2 ?_ ?_
      all_goals
       refine call0 (hge (es ++ [(Tok.mk 5 ⟨#[44]⟩ 0)] ++ [(Tok.mk 2 c 0), (Tok.mk 5 ⟨#[61]⟩ 0)]) (by (try simp only [ll] at *); omega)) ?_ ?_ ?_
       ·decide
       ·simp only [tt, seval, h6, h5, hj1, hj2, idxAt hxc srow_len, idxAt hxs Expr.row_len, i0, iC, iT, iS, iS2, srow, Expr.tk, Expr.row_len]
        try decide
       rintro r rfl
       simp only [tt, seval, h6, h5, hj1, hj2, idxAt hxc srow_len, idxAt hxs Expr.row_len, i0, iC, iT, iS, iS2, srow, Expr.tk, Expr.row_len]
      all_goals exact ⟨rfl, rfl, rfl, rfl, rfl, rfl⟩
     case h2 =>
      intro f' hk0 hk1 hk2 hk3
      try simp only [tt, seval, hk0, hk1, hk2, hk3, h6, h5, hj1, hj2]
      try rw [wrS i (by omega)]
      exact ⟨[(10072, .arr 72 (es ++ [(Tok.mk 5 ⟨#[44]⟩ 0)] ++ [(Tok.mk 2 c 0), (Tok.mk 5 ⟨#[61]⟩ 0)] ++ g e).length ((es ++ [(Tok.mk 5 ⟨#[44]⟩ 0)] ++ [(Tok.mk 2 c 0), (Tok.mk 5 ⟨#[61]⟩ 0)] ++ g e).flatMap Tok.row) none), (2, .str [.v (.int .i64 3), .v (.bool distinct), .sl items.length (items.flatMap Item.row) none, .sl from_.length (from_.flatMap Source.row) none, .sl where_.length (where_.flatMap Expr.row) none, .sl order.length (order.flatMap SortKey.row) none, .v (.int .i64 limit), .v (.string table), .sl rows.length (rows.flatMap ERow.row) none, .sl cols.length (cols.flatMap srow) none, .sl sets.length (sets.flatMap Expr.row) none, .sl where2.length (where2.flatMap Expr.row) none])], none, SubO.cons rfl (SubO.cons rfl (SubO.nil _)), PoSub.none _, ⟨i + 1, es ++ [(Tok.mk 5 ⟨#[44]⟩ 0)] ++ [(Tok.mk 2 c 0), (Tok.mk 5 ⟨#[61]⟩ 0)] ++ g e, rfl, rfl, by omega, by rw [hst, hes0, hel2]; simp [eqT, nT, gT, List.append_assoc], rfl, rfl⟩, by simp only [ixS]; omega⟩
    ·have hcl : cmL i = [] := if_neg (by omega)
     rw [hcl] at hlt2 hel2
     simp only [ll] at hlt2
     try simp only [tt, seval, h6, h5, hj1, hj2]
     apply dDrawn_j4 5 6 2 1
     case h1 =>
      refine dDrawn.intro [72] (.take 0 (.take 1 (.take 2 (.take 3 (.take 4 (.take 5 (.take 10 (.take 12 (.take 15 (.br 6 (.br 7 (.br 8 (.br 9 (.take 11 (.take 13 (.take 14 (.br 16 (.take 17 .done) .nobr)))) (.br 11 (.take 13 (.br 9 (.take 14 (.br 16 (.take 17 .done) .nobr)) (.br 14 (.br 9 (.br 16 (.take 17 .done) .nobr) .nobr) .nobr))) .nobr)) (.br 11 (.take 13 (.br 8 (.br 9 (.take 14 (.br 16 (.take 17 .done) .nobr)) (.br 14 (.br 9 (.br 16 (.take 17 .done) .nobr) .nobr) .nobr)) (.br 14 (.br 8 (.br 9 (.br 16 (.take 17 .done) .nobr) .nobr) .nobr) .nobr))) .nobr)) (.br 11 (.take 13 (.br 7 (.br 8 (.br 9 (.take 14 (.br 16 (.take 17 .done) .nobr)) (.br 14 (.br 9 (.br 16 (.take 17 .done) .nobr) .nobr) .nobr)) (.br 14 (.br 8 (.br 9 (.br 16 (.take 17 .done) .nobr) .nobr) .nobr) .nobr)) (.br 14 (.br 7 (.br 8 (.br 9 (.br 16 (.take 17 .done) .nobr) .nobr) .nobr) .nobr) .nobr))) .nobr)) (.br 11 (.take 13 (.br 6 (.br 7 (.br 8 (.br 9 (.take 14 (.br 16 (.take 17 .done) .nobr)) (.br 14 (.br 9 (.br 16 (.take 17 .done) .nobr) .nobr) .nobr)) (.br 14 (.br 8 (.br 9 (.br 16 (.take 17 .done) .nobr) .nobr) .nobr) .nobr)) (.br 14 (.br 7 (.br 8 (.br 9 (.br 16 (.take 17 .done) .nobr) .nobr) .nobr) .nobr) .nobr)) (.br 14 (.br 6 (.br 7 (.br 8 (.br 9 (.br 16 (.take 17 .done) .nobr) .nobr) .nobr) .nobr) .nobr) .nobr))) .nobr))))))))))) (by kernel_rfl) ?_
      simp only [tt, seval]
      all_goals try simp only [tt, seval, h6, h5, hj1, hj2, idxAt hxc srow_len, idxAt hxs Expr.row_len, i0, iC, iT, iS, iS2, srow, Expr.tk, Expr.row_len]
      all_goals repeat' first | refine brC ?_ ?_ | refine brC2 ?_ ?_
      all_goals
       refine call0 (l10Name_d c) ?_ ?_ ?_
       ·decide
       ·simp only [tt, seval, kT, gT, nT, iT, Tok.row, h6, h5, hj1, hj2, idxAt hxc srow_len, idxAt hxs Expr.row_len, i0, iC, iT, iS, iS2, srow, Expr.tk, Expr.row_len]
       rintro r rfl
       simp only [tt, seval, kT, gT, nT, iT, Tok.row, h6, h5, hj1, hj2, idxAt hxc srow_len, idxAt hxs Expr.row_len, i0, iC, iT, iS, iS2, srow, Expr.tk, Expr.row_len]
      all_goals repeat' first | refine brC ?_ ?_ | refine brC2 ?_ ?_
      all_goals
       refine call0 (l10Sign_d ⟨#[61]⟩) ?_ ?_ ?_
       ·decide
       ·simp only [tt, seval, kT, gT, nT, iT, Tok.row, h6, h5, hj1, hj2, idxAt hxc srow_len, idxAt hxs Expr.row_len, i0, iC, iT, iS, iS2, srow, Expr.tk, Expr.row_len]
       rintro r rfl
       simp only [tt, seval, kT, gT, nT, iT, Tok.row, h6, h5, hj1, hj2, idxAt hxc srow_len, idxAt hxs Expr.row_len, i0, iC, iT, iS, iS2, srow, Expr.tk, Expr.row_len]
      all_goals repeat' first | refine brA ?_ ?_ | refine brA2 ?_ ?_ | refine brA3 ?_ ?_
      all_goals
       refine ⟨by kernel_rfl, ⟨by simp only [maxLen]; (try simp only [ll] at *); omega, by (try simp only [ll] at *); omega⟩, ?_⟩
       rw [tok2 (es), len2 (es) (Tok.mk 2 c 0) (Tok.mk 5 ⟨#[61]⟩ 0)]
       try simp only [tt, seval, h6, h5, hj1, hj2, idxAt hxc srow_len, idxAt hxs Expr.row_len, i0, iC, iT, iS, iS2, srow, Expr.tk, Expr.row_len]
      all_goals repeat' first | refine brC ?_ ?_ | refine brC2 ?_ ?_
      all_goals
       refine call0 (hge (es ++ [(Tok.mk 2 c 0), (Tok.mk 5 ⟨#[61]⟩ 0)]) (by (try simp only [ll] at *); omega)) ?_ ?_ ?_
       ·decide
       ·simp only [tt, seval, h6, h5, hj1, hj2, idxAt hxc srow_len, idxAt hxs Expr.row_len, i0, iC, iT, iS, iS2, srow, Expr.tk, Expr.row_len]
        try decide
       rintro r rfl
       simp only [tt, seval, h6, h5, hj1, hj2, idxAt hxc srow_len, idxAt hxs Expr.row_len, i0, iC, iT, iS, iS2, srow, Expr.tk, Expr.row_len]
      all_goals exact ⟨rfl, rfl, rfl, rfl, rfl, rfl⟩
     case h2 =>
      intro f' hk0 hk1 hk2 hk3
      try simp only [tt, seval, hk0, hk1, hk2, hk3, h6, h5, hj1, hj2]
      try rw [wrS i (by omega)]
      exact ⟨[(10072, .arr 72 (es ++ [(Tok.mk 2 c 0), (Tok.mk 5 ⟨#[61]⟩ 0)] ++ g e).length ((es ++ [(Tok.mk 2 c 0), (Tok.mk 5 ⟨#[61]⟩ 0)] ++ g e).flatMap Tok.row) none), (2, .str [.v (.int .i64 3), .v (.bool distinct), .sl items.length (items.flatMap Item.row) none, .sl from_.length (from_.flatMap Source.row) none, .sl where_.length (where_.flatMap Expr.row) none, .sl order.length (order.flatMap SortKey.row) none, .v (.int .i64 limit), .v (.string table), .sl rows.length (rows.flatMap ERow.row) none, .sl cols.length (cols.flatMap srow) none, .sl sets.length (sets.flatMap Expr.row) none, .sl where2.length (where2.flatMap Expr.row) none])], none, SubO.cons rfl (SubO.cons rfl (SubO.nil _)), PoSub.none _, ⟨i + 1, es ++ [(Tok.mk 2 c 0), (Tok.mk 5 ⟨#[61]⟩ 0)] ++ g e, rfl, rfl, by omega, by rw [hst, hes0, hel2]; simp [eqT, nT, gT, List.append_assoc], rfl, rfl⟩, by simp only [ixS]; omega⟩
   have hie : i = cols.length := by omega
   subst hie
   have hel : es.length = L1.length + (seqN (setF' g cols sets) cols.length).length := by rw [hes0, List.length_append]
   try simp only [tt, seval, h6, h5, hj1, hj2]
   refine call0 (l10Where_d full where2 g hwl hgW es (by (try simp only [ll] at *); omega)) ?_ ?_ ?_
   ·decide
   ·simp only [tt, seval, h6, h5, hj1, hj2]
   rintro r rfl
   simp only [tt, seval, h6, h5, hj1, hj2]
   refine ⟨_, [], owE (l := es ++ whL g where2) (by rw [hes0, hL1]), endOk ?_⟩
   simp only [tt, seval, h6, h5, hj1, hj2]
 ·skip
  have e : stTok g (Stmt.mk 4 (Query.mk distinct items from_ where_ order limit) table rows cols sets where2) = kT 28 :: kT 3 :: nT table :: whL g where2 := rfl
  rw [e] at hlen ⊢
  clear e
  refine cl_of_d follows_mixed false Tryz.func45 rfl (by kernel_rfl) ?_
  simp only [Tryz.f45, tt, seval]
  simp only [ll] at hlen
  apply dDrawn_j3 5 2 1
  case h1 =>
   refine dDrawn.intro [] (pln [0, 6, 8, 3, 5, 11, 13, 15, 16]) (by kernel_rfl) ?_
   simp only [tt, seval]
   all_goals repeat' first | refine brC ?_ ?_ | refine brC2 ?_ ?_
   all_goals
    refine call0 (l10Key_d 28 (by omega) (by omega)) ?_ ?_ ?_
    ·decide
    ·simp only [tt, seval, kT, gT, nT, iT, Tok.row]
    rintro r rfl
    simp only [tt, seval, kT, gT, nT, iT, Tok.row]
   all_goals repeat' first | refine brC ?_ ?_ | refine brC2 ?_ ?_
   all_goals
    refine call0 (l10Key_d 3 (by omega) (by omega)) ?_ ?_ ?_
    ·decide
    ·simp only [tt, seval, kT, gT, nT, iT, Tok.row]
    rintro r rfl
    simp only [tt, seval, kT, gT, nT, iT, Tok.row]
   all_goals repeat' first | refine brC ?_ ?_ | refine brC2 ?_ ?_
   all_goals
    refine call0 (l10Name_d table) ?_ ?_ ?_
    ·decide
    ·simp only [tt, seval, kT, gT, nT, iT, Tok.row]
    rintro r rfl
    simp only [tt, seval, kT, gT, nT, iT, Tok.row]
   all_goals repeat' first | refine brA ?_ ?_ | refine brA2 ?_ ?_ | refine brA3 ?_ ?_
   all_goals
    refine ⟨by kernel_rfl, ⟨by simp only [maxLen]; omega, by omega⟩, ?_⟩
    try simp only [tt, seval]
   all_goals exact ⟨rfl, rfl, rfl, rfl, rfl⟩
  case h2 =>
   intro f' hj0 hj1 hj2
   try simp only [tt, seval, hj0, hj1, hj2]
   refine call0 (l10Where_d full where2 g hwl hgW [(Tok.mk 1 (kw 28) 0), (Tok.mk 1 (kw 3) 0), (Tok.mk 2 table 0)] (by simp only [ll]; omega)) ?_ ?_ ?_
   ·decide
   ·simp only [tt, seval, hj0, hj1, hj2, List.length_cons, List.length_nil, List.flatMap_cons, List.flatMap_nil, List.cons_append, List.nil_append, Tok.row]
   rintro r rfl
   simp only [tt, seval, hj0, hj1, hj2, List.length_cons, List.length_nil, List.flatMap_cons, List.flatMap_nil, List.cons_append, List.nil_append, Tok.row]
   refine ⟨_, [], owE (l := [(Tok.mk 1 (kw 28) 0), (Tok.mk 1 (kw 3) 0), (Tok.mk 2 table 0)] ++ whL g where2) (by rfl), endOk ?_⟩
   simp only [tt, seval, List.length_cons, List.length_nil, List.flatMap_cons, List.flatMap_nil, List.cons_append, List.nil_append, Tok.row, hj0, hj1, hj2]
set_option maxHeartbeats 1000000 in
theorem exprs_d (full : Bool) (l : List Expr) (g : Expr → List Tok) (hll : l.length ≤ 1048576) (hg : ∀ x ∈ l, PrE full x (g x)) : PrC 107 [.c (.sl l.length (l.flatMap Expr.row) none)] full (lpT :: (seqN (elF g l) l.length ++ [rpT])) := by
 intro out hroom
 simp only [ll] at hroom
 refine cl_of_d follows_mixed false Tryz.func107 rfl (by kernel_rfl) ?_
 simp only [Tryz.f107, tt, seval]
 refine CallQ.intro (sign_d full ⟨#[40]⟩ out (by (try simp only [ll] at *); omega)) ?_ ?_ ?_
 ·decide
 ·simp only [tt, seval]
 rintro r os ⟨rfl, rfl⟩ hos
 simp only [tt, seval]
 refine fun _ => ?_
 obtain ⟨L1, hL1⟩ : ∃ L1, L1 = out ++ [gT ⟨#[40]⟩] := ⟨_, rfl⟩
 have hl1 : L1.length = out.length + 1 := by rw [hL1]; simp only [ll]
 rw [← hL1]
 refine dLoop.gh [.ren 10000007 10000020] ⟨by decide, by decide, ?_⟩
 refine dLoop0.intro (fun f L p => ∃ (i : Nat) (es : List Tok), f 10 = vi i ∧ i ≤ l.length ∧ es = L1 ++ seqN (elF g l) i ∧ L = [(9000, .str [.s 10000020 (es).length, .v (.bool full)]), (10000020, .arr 72 (es).length ((es).flatMap Tok.row) none)] ∧ p = none) (fun f _ _ => (l.length - ixS (f 10)).toNat) [(9000, .str [.s 10000020 (L1).length, .v (.bool full)]), (10000020, .arr 72 (L1).length ((L1).flatMap Tok.row) none)] none ⟨SubO.cons rfl (SubO.cons rfl (SubO.nil _)), PoSub.none _, ?_⟩ ?_
 ·simp only [tt, seval]
  exact ⟨0, L1, rfl, by omega, (List.append_nil _).symm, rfl⟩
 ·rintro g' L p ⟨i, es, h10, hi, hes, rfl, rfl⟩
  simp only [tt, seval] at h10
  simp only [tt, seval, h10, Int.ofNat_lt]
  refine And.intro (fun hlt => ?_) (fun hge => ?_)
  ·have hst := seqN_succ (elF g l) i
   have hlt2 := seqN_lt (elF g l) hlt
   have hel : es.length = L1.length + (seqN (elF g l) i).length := by rw [hes, List.length_append]
   obtain ⟨it, hit⟩ : ∃ it, it = l[i] := ⟨_, rfl⟩
   have hx : l[i]? = some it := by rw [hit]; exact List.getElem?_eq_getElem hlt
   have hss : elF g l i = cmL i ++ g it := by rw [elF, atL_get hlt, hit]
   rw [hss] at hlt2
   simp only [ll] at hlt2
   have hgi : PrC 80 [.ag (csOf it.row)] full (g it) := hg it (by rw [hit]; exact List.getElem_mem hlt)
   have i0 : ((0 : Int) ≤ (i : Int)) = True := eq_true (by omega)
   have iL : ((i : Int) < (l.length : Int)) = True := eq_true (by omega)
   have iT : (i < l.length) = True := eq_true hlt
   generalize g it = le at *
   obtain ⟨k0, o0, n0, v0, q0, m0, ks0, ss0⟩ := it
   try simp only [tt, seval, h10, idxAt hx Expr.row_len, i0, iL, iT, Expr.row_mk]
   refine CallQ.intro (comma_d full i es (by (try simp only [ll] at *); omega)) ?_ ?_ ?_
   ·decide
   ·simp only [tt, seval, h10, Expr.row_mk]
   rintro r os ⟨rfl, rfl⟩ hos
   simp only [tt, seval, h10, Expr.row_mk]
   refine CallQ.intro (hgi (es ++ cmL i) (by (try simp only [ll] at *); omega)) ?_ ?_ ?_
   ·decide
   ·simp only [tt, seval, h10, Expr.row_mk]
   rintro r os ⟨rfl, rfl⟩ hos
   simp only [tt, seval, h10, Expr.row_mk]
   try rw [wrS i (by omega)]
   exact ⟨[(9000, .str [.s 10000020 ((es ++ cmL i ++ le)).length, .v (.bool full)]), (10000020, .arr 72 ((es ++ cmL i ++ le)).length (((es ++ cmL i ++ le)).flatMap Tok.row) none)], none, SubO.cons rfl (SubO.cons rfl (SubO.nil _)), PoSub.none _, ⟨i + 1, es ++ cmL i ++ le, rfl, by omega, by rw [hst, hes, hss]; simp [List.append_assoc], rfl, rfl⟩, by simp only [ixS]; omega⟩
  ·have hie : i = l.length := by omega
   subst hie
   have hel : es.length = L1.length + (seqN (elF g l) l.length).length := by rw [hes, List.length_append]
   try simp only [tt, seval, h10]
   refine CallQ.intro (sign_d full ⟨#[41]⟩ es (by (try simp only [ll] at *); omega)) ?_ ?_ ?_
   ·decide
   ·simp only [tt, seval, h10]
   rintro r os ⟨rfl, rfl⟩ hos
   simp only [tt, seval, h10]
   refine ⟨.tu [], _, ⟨rfl, osE (l := es ++ [gT ⟨#[41]⟩]) (by rw [hes, hL1]; simp [lpT, rpT, List.append_assoc])⟩, endOk ?_⟩
   simp only [tt, seval]
set_option maxHeartbeats 8000000 in
theorem stmt_d (full : Bool) (s : Stmt) (hok : stOk s = true) (hr : RgS s) (hsz : szStmt s ≤ 1048576) : PrC 49 [.ag (csOf s.row)] full (stTok (tkE full) s) := by
 intro out hroom
 have hex := fun x hx => stExprs_sz (s := s) (x := x) hx
 obtain ⟨_, hp⟩ := st_parts hok
 obtain ⟨kind, q, table, rows, cols, sets, where2⟩ := s
 obtain ⟨hlim, hrg⟩ := hr
 have hss := hsz
 rw [szStmt_mk] at hss
 simp only [stExprs, List.mem_append] at hrg hex
 have hT : ∀ x, fmE x = true → Rg x → szExpr x ≤ 1048576 → PrE full x (tkE full x) := fun x => expr_d full x
 have hQ : fmQ fmE q = true → PrQ full q (quT (tkE full) q) := fun hq => by
  have hb : ∀ x ∈ exprsQ q, fmE x = true := by
   obtain ⟨d, it, fr, wh, od, li⟩ := q
   exact (fq_parts hq).2.2.2.2.2.2.2
  exact query_step full fmE (tkE full) q hq hlim (by omega) fun x hx => hT x (hb x hx) (hrg x (.inl (.inl (.inl hx)))) (Nat.le_trans (hex x (.inl (.inl (.inl hx)))) hsz)
 have hT2 : ∀ x, fmE x = true → (((x ∈ exprsQ q ∨ x ∈ rows.flatMap ERow.l) ∨ x ∈ sets) ∨ x ∈ where2) → PrE full x (tkE full x) := fun x hf hm => hT x hf (hrg x hm) (Nat.le_trans (hex x hm) hsz)
 generalize tkE full = g at *
 have hsr : szERows rows ≤ 1048576 := by omega
 have hwl : where2.length ≤ 1048576 := by rw [szExprs_eq, szExprs_eq] at hss; omega
 have hcl9 : cols.length ≤ 1048576 := by unfold szTexts at hss; omega
 clear hT hex hss
 rcases hp with ⟨rfl, hq⟩ | ⟨k1, hn, h2, h3, h4, hk⟩
 ·have hq := hQ hq
  obtain ⟨distinct, items, from_, where_, order, limit⟩ := q
  have hq : PrC 31 [.ag (csOf (Query.mk distinct items from_ where_ order limit).row)] full (quT g (Query.mk distinct items from_ where_ order limit)) := hq
  rw [Query.row_mk] at hq
  rw [Stmt.row_mk, Query.row_mk]
  simp only [List.cons_append, List.nil_append]
  have e : stTok g (Stmt.mk 1 (Query.mk distinct items from_ where_ order limit) table rows cols sets where2) = quT g (Query.mk distinct items from_ where_ order limit) := rfl
  rw [e] at hroom ⊢
  clear e
  try simp only [ll] at hroom
  refine cl_of_d follows_mixed false Tryz.func49 rfl (by kernel_rfl) ?_
  simp only [Tryz.f49, tt, seval]
  refine CallQ.intro (hq out (by (try simp only [ll] at *); omega)) ?_ ?_ ?_
  ·decide
  ·simp only [tt, seval, Query.row_mk]
  rintro r os ⟨rfl, rfl⟩ hos
  simp only [tt, seval, Query.row_mk]
  refine ⟨.tu [], _, ⟨rfl, osE (l := out ++ quT g (Query.mk distinct items from_ where_ order limit)) (by rfl)⟩, endOk ?_⟩
  simp only [tt, seval]
 have hgR : ∀ x ∈ rows.flatMap ERow.l, PrE full x (g x) := fun x hx => hT2 x (h2 x hx) (.inl (.inl (.inr hx)))
 have hgT : ∀ x ∈ sets, PrE full x (g x) := fun x hx => hT2 x (h3 x hx) (.inl (.inr hx))
 have hgW : ∀ x ∈ where2, PrE full x (g x) := fun x hx => hT2 x (h4 x hx) (.inr hx)
 obtain ⟨distinct, items, from_, where_, order, limit⟩ := q
 rw [Stmt.row_mk, Query.row_mk]
 simp only [List.cons_append, List.nil_append]
 rcases hk with ⟨rfl, hl, h12⟩ | ⟨rfl, hl, hsl, hc⟩ | rfl
 ·skip
  have e : stTok g (Stmt.mk 2 (Query.mk distinct items from_ where_ order limit) table rows cols sets where2) = kT 23 :: kT 24 :: nT table :: kT 25 :: seqN (rowsF g rows) rows.length := rfl
  rw [e] at hroom ⊢
  clear e
  try simp only [ll] at hroom
  refine cl_of_d follows_mixed false Tryz.func49 rfl (by kernel_rfl) ?_
  simp only [Tryz.f49, tt, seval]
  refine CallQ.intro (kINSERTINTO full out (by (try simp only [ll] at *); omega)) ?_ ?_ ?_
  ·decide
  ·simp only [tt, seval]
  rintro r os ⟨rfl, rfl⟩ hos
  simp only [tt, seval]
  refine CallQ.intro (name_d full table (out ++ [kT 23, kT 24]) (by (try simp only [ll] at *); omega)) ?_ ?_ ?_
  ·decide
  ·simp only [tt, seval]
  rintro r os ⟨rfl, rfl⟩ hos
  simp only [tt, seval]
  refine CallQ.intro (kVALUES full (out ++ [kT 23, kT 24] ++ [nT table]) (by (try simp only [ll] at *); omega)) ?_ ?_ ?_
  ·decide
  ·simp only [tt, seval]
  rintro r os ⟨rfl, rfl⟩ hos
  simp only [tt, seval]
  refine fun _ => ?_
  obtain ⟨L1, hL1⟩ : ∃ L1, L1 = out ++ [kT 23, kT 24] ++ [nT table] ++ [kT 25] := ⟨_, rfl⟩
  have hl1 : L1.length = out.length + 4 := by rw [hL1]; simp only [ll]
  rw [← hL1]
  refine dLoop.gh [.ren 10000025 10000039] ⟨by decide, by decide, ?_⟩
  refine dLoop0.intro (fun f L p => ∃ (i : Nat) (es : List Tok), f 29 = vi i ∧ i ≤ rows.length ∧ es = L1 ++ seqN (rowsF g rows) i ∧ L = [(9000, .str [.s 10000039 (es).length, .v (.bool full)]), (10000039, .arr 72 (es).length ((es).flatMap Tok.row) none), (3, .str [.v (.int .i64 2), .v (.bool distinct), .sl items.length (items.flatMap Item.row) none, .sl from_.length (from_.flatMap Source.row) none, .sl where_.length (where_.flatMap Expr.row) none, .sl order.length (order.flatMap SortKey.row) none, .v (.int .i64 limit), .v (.string table), .sl rows.length (rows.flatMap ERow.row) none, .sl cols.length (cols.flatMap srow) none, .sl sets.length (sets.flatMap Expr.row) none, .sl where2.length (where2.flatMap Expr.row) none])] ∧ p = none) (fun f _ _ => (rows.length - ixS (f 29)).toNat) [(9000, .str [.s 10000039 (L1).length, .v (.bool full)]), (10000039, .arr 72 (L1).length ((L1).flatMap Tok.row) none), (3, .str [.v (.int .i64 2), .v (.bool distinct), .sl items.length (items.flatMap Item.row) none, .sl from_.length (from_.flatMap Source.row) none, .sl where_.length (where_.flatMap Expr.row) none, .sl order.length (order.flatMap SortKey.row) none, .v (.int .i64 limit), .v (.string table), .sl rows.length (rows.flatMap ERow.row) none, .sl cols.length (cols.flatMap srow) none, .sl sets.length (sets.flatMap Expr.row) none, .sl where2.length (where2.flatMap Expr.row) none])] none ⟨SubO.cons rfl (SubO.cons rfl (SubO.cons rfl (SubO.nil _))), PoSub.none _, ?_⟩ ?_
  ·simp only [tt, seval]
   exact ⟨0, L1, rfl, by omega, (List.append_nil _).symm, rfl⟩
  rintro g' L p ⟨i, es, h29, hi, hes, rfl, rfl⟩
  simp only [tt, seval] at h29
  simp only [tt, seval, h29, Int.ofNat_lt]
  refine And.intro (fun hlt => ?_) (fun hge => ?_)
  ·have hst := seqN_succ (rowsF g rows) i
   have hlt2 := seqN_lt (rowsF g rows) hlt
   have hel : es.length = L1.length + (seqN (rowsF g rows) i).length := by rw [hes, List.length_append]
   obtain ⟨it, hit⟩ : ∃ it, it = rows[i] := ⟨_, rfl⟩
   have hx : rows[i]? = some it := by rw [hit]; exact List.getElem?_eq_getElem hlt
   have hmem : it ∈ rows := by rw [hit]; exact List.getElem_mem hlt
   have hss : rowsF g rows i = cmL i ++ rowT g it := by rw [rowsF, atL_get hlt, hit]
   have hil := mem_sz szERow hmem
   rw [szERow_eq, szExprs_eq] at hil
   rw [szERows_eq] at hsr
   have hxe : PrC 107 [.c (.sl it.l.length (it.l.flatMap Expr.row) none)] full (rowT g it) := exprs_d full it.l g (by omega) fun x hx => hgR x (List.mem_flatMap.2 ⟨_, hmem, hx⟩)
   rw [hss] at hlt2
   generalize rowT g it = le at *
   simp only [ll] at hlt2
   have i0 : ((0 : Int) ≤ (i : Int)) = True := eq_true (by omega)
   have iL : ((i : Int) < (rows.length : Int)) = True := eq_true (by omega)
   have iT : (i < rows.length) = True := eq_true hlt
   try simp only [tt, seval, h29, idxAt hx ERow.row_len, i0, iL, iT, erowE]
   refine CallQ.intro (comma_d full i es (by (try simp only [ll] at *); omega)) ?_ ?_ ?_
   ·decide
   ·simp only [tt, seval, h29, idxAt hx ERow.row_len, i0, iL, iT, erowE]
   rintro r os ⟨rfl, rfl⟩ hos
   simp only [tt, seval, h29, idxAt hx ERow.row_len, i0, iL, iT, erowE]
   refine CallQ.intro (hxe (es ++ cmL i) (by (try simp only [ll] at *); omega)) ?_ ?_ ?_
   ·decide
   ·simp only [tt, seval, h29, idxAt hx ERow.row_len, i0, iL, iT, erowE]
   rintro r os ⟨rfl, rfl⟩ hos
   simp only [tt, seval, h29, idxAt hx ERow.row_len, i0, iL, iT, erowE]
   try rw [wrS i (by omega)]
   exact ⟨[(9000, .str [.s 10000039 ((es ++ cmL i ++ le)).length, .v (.bool full)]), (10000039, .arr 72 ((es ++ cmL i ++ le)).length (((es ++ cmL i ++ le)).flatMap Tok.row) none), (3, .str [.v (.int .i64 2), .v (.bool distinct), .sl items.length (items.flatMap Item.row) none, .sl from_.length (from_.flatMap Source.row) none, .sl where_.length (where_.flatMap Expr.row) none, .sl order.length (order.flatMap SortKey.row) none, .v (.int .i64 limit), .v (.string table), .sl rows.length (rows.flatMap ERow.row) none, .sl cols.length (cols.flatMap srow) none, .sl sets.length (sets.flatMap Expr.row) none, .sl where2.length (where2.flatMap Expr.row) none])], none, SubO.cons rfl (SubO.cons rfl (SubO.cons rfl (SubO.nil _))), PoSub.none _, ⟨i + 1, es ++ cmL i ++ le, rfl, by omega, by rw [hst, hes, hss]; simp [List.append_assoc], rfl, rfl⟩, by simp only [ixS]; omega⟩
  have hie : i = rows.length := by omega
  subst hie
  try simp only [tt, seval, h29]
  refine ⟨.tu [], _, ⟨rfl, osE (l := es) (by rw [hes, hL1]; simp [List.append_assoc])⟩, endOk ?_⟩
  simp only [tt, seval]
 ·skip
  have e : stTok g (Stmt.mk 3 (Query.mk distinct items from_ where_ order limit) table rows cols sets where2) = kT 26 :: nT table :: kT 27 :: (seqN (setF' g cols sets) cols.length ++ whL g where2) := rfl
  rw [e] at hroom ⊢
  clear e
  try simp only [ll] at hroom
  refine cl_of_d follows_mixed false Tryz.func49 rfl (by kernel_rfl) ?_
  simp only [Tryz.f49, tt, seval]
  refine CallQ.intro (kUPDATE full out (by (try simp only [ll] at *); omega)) ?_ ?_ ?_
  ·decide
  ·simp only [tt, seval]
  rintro r os ⟨rfl, rfl⟩ hos
  simp only [tt, seval]
  refine CallQ.intro (name_d full table (out ++ [kT 26]) (by (try simp only [ll] at *); omega)) ?_ ?_ ?_
  ·decide
  ·simp only [tt, seval]
  rintro r os ⟨rfl, rfl⟩ hos
  simp only [tt, seval]
  refine CallQ.intro (kSET full (out ++ [kT 26] ++ [nT table]) (by (try simp only [ll] at *); omega)) ?_ ?_ ?_
  ·decide
  ·simp only [tt, seval]
  rintro r os ⟨rfl, rfl⟩ hos
  simp only [tt, seval]
  refine fun _ => ?_
  obtain ⟨L1, hL1⟩ : ∃ L1, L1 = out ++ [kT 26] ++ [nT table] ++ [kT 27] := ⟨_, rfl⟩
  have hl1 : L1.length = out.length + 3 := by rw [hL1]; simp only [ll]
  rw [← hL1]
  refine dLoop.gh [.ren 10000050 10000073] ⟨by decide, by decide, ?_⟩
  refine dLoop0.intro (fun f L p => ∃ (i : Nat) (es : List Tok), f 54 = vi i ∧ i ≤ cols.length ∧ es = L1 ++ seqN (setF' g cols sets) i ∧ L = [(9000, .str [.s 10000073 (es).length, .v (.bool full)]), (10000073, .arr 72 (es).length ((es).flatMap Tok.row) none), (3, .str [.v (.int .i64 3), .v (.bool distinct), .sl items.length (items.flatMap Item.row) none, .sl from_.length (from_.flatMap Source.row) none, .sl where_.length (where_.flatMap Expr.row) none, .sl order.length (order.flatMap SortKey.row) none, .v (.int .i64 limit), .v (.string table), .sl rows.length (rows.flatMap ERow.row) none, .sl cols.length (cols.flatMap srow) none, .sl sets.length (sets.flatMap Expr.row) none, .sl where2.length (where2.flatMap Expr.row) none])] ∧ p = none) (fun f _ _ => (cols.length - ixS (f 54)).toNat) [(9000, .str [.s 10000073 (L1).length, .v (.bool full)]), (10000073, .arr 72 (L1).length ((L1).flatMap Tok.row) none), (3, .str [.v (.int .i64 3), .v (.bool distinct), .sl items.length (items.flatMap Item.row) none, .sl from_.length (from_.flatMap Source.row) none, .sl where_.length (where_.flatMap Expr.row) none, .sl order.length (order.flatMap SortKey.row) none, .v (.int .i64 limit), .v (.string table), .sl rows.length (rows.flatMap ERow.row) none, .sl cols.length (cols.flatMap srow) none, .sl sets.length (sets.flatMap Expr.row) none, .sl where2.length (where2.flatMap Expr.row) none])] none ⟨SubO.cons rfl (SubO.cons rfl (SubO.cons rfl (SubO.nil _))), PoSub.none _, ?_⟩ ?_
  ·simp only [tt, seval]
   exact ⟨0, L1, rfl, by omega, (List.append_nil _).symm, rfl⟩
  rintro g' L p ⟨i, es, h54, hi, hes, rfl, rfl⟩
  simp only [tt, seval] at h54
  simp only [tt, seval, h54, Int.ofNat_lt]
  refine And.intro (fun hlt => ?_) (fun hge => ?_)
  ·have hls : i < sets.length := by omega
   have hst := seqN_succ (setF' g cols sets) i
   have hlt2 := seqN_lt (setF' g cols sets) hlt
   have hel : es.length = L1.length + (seqN (setF' g cols sets) i).length := by rw [hes, List.length_append]
   obtain ⟨c, hc⟩ : ∃ c, c = cols[i] := ⟨_, rfl⟩
   have hxc : cols[i]? = some c := by rw [hc]; exact List.getElem?_eq_getElem hlt
   obtain ⟨e, he⟩ : ∃ e, e = sets[i] := ⟨_, rfl⟩
   have hxs : sets[i]? = some e := by rw [he]; exact List.getElem?_eq_getElem hls
   have hss : setF' g cols sets i = cmL i ++ ([nT c, eqT] ++ g e) := by rw [setF', atL_get hlt, atL_get hls, hc, he]
   rw [hss] at hlt2
   have hxe : PrC 80 [.ag (csOf e.row)] full (g e) := hgT e (by rw [he]; exact List.getElem_mem hls)
   generalize g e = le at *
   simp only [ll] at hlt2
   have i0 : ((0 : Int) ≤ (i : Int)) = True := eq_true (by omega)
   have iC : ((i : Int) < (cols.length : Int)) = True := eq_true (by omega)
   have iT : (i < cols.length) = True := eq_true hlt
   have iS : (i < sets.length) = True := eq_true hls
   have iS2 : ((i : Int) < (sets.length : Int)) = True := eq_true (by omega)
   try simp only [tt, seval, h54, idxAt hxc srow_len, idxAt hxs Expr.row_len, i0, iC, iT, iS, iS2, srow, Expr.tk, Expr.row_len]
   refine CallQ.intro (comma_d full i es (by (try simp only [ll] at *); omega)) ?_ ?_ ?_
   ·decide
   ·simp only [tt, seval, h54, idxAt hxc srow_len, idxAt hxs Expr.row_len, i0, iC, iT, iS, iS2, srow, Expr.tk, Expr.row_len]
   rintro r os ⟨rfl, rfl⟩ hos
   simp only [tt, seval, h54, idxAt hxc srow_len, idxAt hxs Expr.row_len, i0, iC, iT, iS, iS2, srow, Expr.tk, Expr.row_len]
   refine CallQ.intro (name_d full c (es ++ cmL i) (by (try simp only [ll] at *); omega)) ?_ ?_ ?_
   ·decide
   ·simp only [tt, seval, h54, idxAt hxc srow_len, idxAt hxs Expr.row_len, i0, iC, iT, iS, iS2, srow, Expr.tk, Expr.row_len]
   rintro r os ⟨rfl, rfl⟩ hos
   simp only [tt, seval, h54, idxAt hxc srow_len, idxAt hxs Expr.row_len, i0, iC, iT, iS, iS2, srow, Expr.tk, Expr.row_len]
   refine CallQ.intro (sign_d full ⟨#[61]⟩ (es ++ cmL i ++ [nT c]) (by (try simp only [ll] at *); omega)) ?_ ?_ ?_
   ·decide
   ·simp only [tt, seval, h54, idxAt hxc srow_len, idxAt hxs Expr.row_len, i0, iC, iT, iS, iS2, srow, Expr.tk, Expr.row_len]
   rintro r os ⟨rfl, rfl⟩ hos
   simp only [tt, seval, h54, idxAt hxc srow_len, idxAt hxs Expr.row_len, i0, iC, iT, iS, iS2, srow, Expr.tk, Expr.row_len]
   refine CallQ.intro (hxe (es ++ cmL i ++ [nT c] ++ [gT ⟨#[61]⟩]) (by (try simp only [ll] at *); omega)) ?_ ?_ ?_
   ·decide
   ·simp only [tt, seval, h54, idxAt hxc srow_len, idxAt hxs Expr.row_len, i0, iC, iT, iS, iS2, srow, Expr.tk, Expr.row_len]
   rintro r os ⟨rfl, rfl⟩ hos
   simp only [tt, seval, h54, idxAt hxc srow_len, idxAt hxs Expr.row_len, i0, iC, iT, iS, iS2, srow, Expr.tk, Expr.row_len]
   try rw [wrS i (by omega)]
   exact ⟨[(9000, .str [.s 10000073 ((es ++ cmL i ++ [nT c] ++ [gT ⟨#[61]⟩] ++ le)).length, .v (.bool full)]), (10000073, .arr 72 ((es ++ cmL i ++ [nT c] ++ [gT ⟨#[61]⟩] ++ le)).length (((es ++ cmL i ++ [nT c] ++ [gT ⟨#[61]⟩] ++ le)).flatMap Tok.row) none), (3, .str [.v (.int .i64 3), .v (.bool distinct), .sl items.length (items.flatMap Item.row) none, .sl from_.length (from_.flatMap Source.row) none, .sl where_.length (where_.flatMap Expr.row) none, .sl order.length (order.flatMap SortKey.row) none, .v (.int .i64 limit), .v (.string table), .sl rows.length (rows.flatMap ERow.row) none, .sl cols.length (cols.flatMap srow) none, .sl sets.length (sets.flatMap Expr.row) none, .sl where2.length (where2.flatMap Expr.row) none])], none, SubO.cons rfl (SubO.cons rfl (SubO.cons rfl (SubO.nil _))), PoSub.none _, ⟨i + 1, es ++ cmL i ++ [nT c] ++ [gT ⟨#[61]⟩] ++ le, rfl, by omega, by rw [hst, hes, hss]; simp [eqT, List.append_assoc], rfl, rfl⟩, by simp only [ixS]; omega⟩
  have hie : i = cols.length := by omega
  subst hie
  have hel : es.length = L1.length + (seqN (setF' g cols sets) cols.length).length := by rw [hes, List.length_append]
  try simp only [tt, seval, h54]
  refine CallQ.intro (where_d full where2 g hwl hgW es (by (try simp only [ll] at *); omega)) ?_ ?_ ?_
  ·decide
  ·simp only [tt, seval, h54]
  rintro r os ⟨rfl, rfl⟩ hos
  simp only [tt, seval, h54]
  refine ⟨.tu [], _, ⟨rfl, osE (l := es ++ whL g where2) (by rw [hes, hL1]; simp [List.append_assoc])⟩, endOk ?_⟩
  simp only [tt, seval]
 ·skip
  have e : stTok g (Stmt.mk 4 (Query.mk distinct items from_ where_ order limit) table rows cols sets where2) = kT 28 :: kT 3 :: nT table :: whL g where2 := rfl
  rw [e] at hroom ⊢
  clear e
  try simp only [ll] at hroom
  refine cl_of_d follows_mixed false Tryz.func49 rfl (by kernel_rfl) ?_
  simp only [Tryz.f49, tt, seval]
  refine CallQ.intro (kDELETEFROM full out (by (try simp only [ll] at *); omega)) ?_ ?_ ?_
  ·decide
  ·simp only [tt, seval]
  rintro r os ⟨rfl, rfl⟩ hos
  simp only [tt, seval]
  refine CallQ.intro (name_d full table (out ++ [kT 28, kT 3]) (by (try simp only [ll] at *); omega)) ?_ ?_ ?_
  ·decide
  ·simp only [tt, seval]
  rintro r os ⟨rfl, rfl⟩ hos
  simp only [tt, seval]
  refine CallQ.intro (where_d full where2 g hwl hgW (out ++ [kT 28, kT 3] ++ [nT table]) (by (try simp only [ll] at *); omega)) ?_ ?_ ?_
  ·decide
  ·simp only [tt, seval]
  rintro r os ⟨rfl, rfl⟩ hos
  simp only [tt, seval]
  refine ⟨.tu [], _, ⟨rfl, osE (l := out ++ [kT 28, kT 3] ++ [nT table] ++ whL g where2) (by simp)⟩, endOk ?_⟩
  simp only [tt, seval]
noncomputable def stToks (s : Stmt) : List Tok := if stOk s = true then stTok (tkE false) s else []
theorem st_small (full : Bool) (s : Stmt) (hr : RgS s) (h : stOk s = true) : (stTok (tkE full) s).length ≤ 1000000 ∧ (∀ t ∈ stTok (tkE full) s, t.text.size ≤ 1048576) ∧ (joinL (stTok (tkE full) s) (stTok (tkE full) s).length).length ≤ 50000000 := by
 have hs := st_sm full h hr
 exact ⟨Nat.le_trans hs.1 (by decide), fun t ht => Nat.le_trans (hs.2 t ht) (by decide), join_len hs (by decide)⟩
theorem StmtToks_d (s : Stmt) (hr : RgS s) (hsz : szStmt s ≤ 1048576) : Cl Tryz.prog 15 [.ag (csOf s.row)] [] fun r _ => r = .c (.sl (stToks s).length ((stToks s).flatMap Tok.row) none) := by
 have c1 := StmtOk_d s hsz
 have ht := st_small false s hr
 have he := l11Stmt_d false s
 unfold stToks
 generalize stTok (tkE false) s = l at *
 cases hb : stOk s
 case false =>
  rw [hb] at c1
  obtain ⟨kind, ⟨distinct, items, from_, where_, order, limit⟩, table, rows, cols, sets, where2⟩ := s
  rw [Stmt.row_mk, Query.row_mk] at c1 ⊢
  simp only [List.cons_append, List.nil_append] at c1 ⊢
  refine cl_of_d follows_mixed false Tryz.func15 rfl (by kernel_rfl) ?_
  simp only [Tryz.f15, tt, seval]
  refine call0 (c1) ?_ ?_ ?_
  ·decide
  ·simp only [tt, seval]
  rintro r rfl
  simp only [tt, seval]
  refine ⟨_, [], rfl, endOk ?_⟩
  simp only [tt, seval, Bool.false_eq_true, if_false, List.length_nil, List.flatMap_nil]
 case true =>
  rw [hb] at c1
  obtain ⟨h1, h2, h3⟩ := ht hb
  have he : Cl Tryz.prog 45 [.ag (csOf s.row), vb false] [] fun r _ => r = .c (.ow 72 (l).length ((l).flatMap Tok.row) none) := he hb hr hsz
  obtain ⟨kind, ⟨distinct, items, from_, where_, order, limit⟩, table, rows, cols, sets, where2⟩ := s
  rw [Stmt.row_mk, Query.row_mk] at c1 he ⊢
  simp only [List.cons_append, List.nil_append] at c1 he ⊢
  refine cl_of_d follows_mixed false Tryz.func15 rfl (by kernel_rfl) ?_
  simp only [Tryz.f15, tt, seval]
  refine call0 (c1) ?_ ?_ ?_
  ·decide
  ·simp only [tt, seval]
  rintro r rfl
  simp only [tt, seval]
  refine call0 (he) ?_ ?_ ?_
  ·decide
  ·simp only [tt, seval]
  rintro r rfl
  simp only [tt, seval]
  refine ⟨_, [], rfl, endOk ?_⟩
  simp only [tt, seval, if_true]
theorem iStmtToks_d (s : Stmt) (hr : RgS s) (hsz : szStmt s ≤ 1048576) : Cl Tryz.prog 17 [.ag (csOf s.row)] [] fun r _ => r = .c (.ow 72 (stToks s).length ((stToks s).flatMap Tok.row) none) := by
 have c1 := iStmtOk_d s hsz
 have ht := st_small false s hr
 have he := stmt_d false s
 unfold stToks
 generalize stTok (tkE false) s = l at *
 cases hb : stOk s
 case false =>
  rw [hb] at c1
  obtain ⟨kind, ⟨distinct, items, from_, where_, order, limit⟩, table, rows, cols, sets, where2⟩ := s
  rw [Stmt.row_mk, Query.row_mk] at c1 ⊢
  simp only [List.cons_append, List.nil_append] at c1 ⊢
  refine cl_of_d follows_mixed false Tryz.func17 rfl (by kernel_rfl) ?_
  simp only [Tryz.f17, tt, seval]
  refine call0 (c1) ?_ ?_ ?_
  ·decide
  ·simp only [tt, seval]
  rintro r rfl
  simp only [tt, seval]
  refine ⟨_, [], rfl, endOk ?_⟩
  simp only [tt, seval, Bool.false_eq_true, if_false, List.length_nil, List.flatMap_nil]
 case true =>
  rw [hb] at c1
  obtain ⟨h1, h2, h3⟩ := ht hb
  have he : PrC 49 [.ag (csOf s.row)] false (l) := he hb hr hsz
  obtain ⟨kind, ⟨distinct, items, from_, where_, order, limit⟩, table, rows, cols, sets, where2⟩ := s
  rw [Stmt.row_mk, Query.row_mk] at c1 he ⊢
  simp only [List.cons_append, List.nil_append] at c1 he ⊢
  refine cl_of_d follows_mixed false Tryz.func17 rfl (by kernel_rfl) ?_
  simp only [Tryz.f17, tt, seval]
  refine call0 (c1) ?_ ?_ ?_
  ·decide
  ·simp only [tt, seval]
  rintro r rfl
  simp only [tt, seval]
  refine CallQ.intro (he [] (by simp only [List.length_nil]; omega)) ?_ ?_ ?_
  ·decide
  ·simp only [tt, seval, List.flatMap_nil, List.length_nil]
  rintro r os ⟨rfl, rfl⟩ hos
  simp only [tt, seval, List.flatMap_nil, List.length_nil]
  refine ⟨_, [], rfl, endOk ?_⟩
  simp only [tt, seval, if_true, List.nil_append]
end Go.Proofs.YthhkmmcgjnecbaaGreatDoor
set_option maxRecDepth 8000
namespace Go.Proofs.YthhkmmcgjnecbaaGreatDoor
open Go Go.Dv
open Go.Vc (D shrI xorI andI and255)
open Go.Cv
theorem eqTok_step (kind : Int) (text : ByteArray) (at_ : Int)  : Cl Tryz.prog 32 [.ag (csOf (Tok.mk kind text at_).row), .ag (csOf (Tok.mk kind text at_).row)] [] fun r _ => r = vb true := by
 rw [Tok.row_mk]
 refine cl_of_d follows_mixed false Tryz.func32 rfl (by kernel_rfl) ?_
 simp only [Tryz.f32, tt, seval]
 exact ⟨_, _, rfl, end0 rfl⟩
theorem eqToks_step (a : List Tok) (hx : ∀ x ∈ a, Cl Tryz.prog 32 [.ag (csOf x.row), .ag (csOf x.row)] [] fun r _ => r = vb true) : Cl Tryz.prog 9 [.c (.sl a.length (a.flatMap Tok.row) none), .c (.sl a.length (a.flatMap Tok.row) none)] [] fun r _ => r = vb true := by
 refine cl_of_d follows_mixed false Tryz.func9 rfl (by kernel_rfl) ?_
 simp only [Tryz.f9, tt, seval]
 refine fun _ _ => ?_
 refine dLoop.intro (fun f L p => ∃ i : Nat, f 5 = vi i ∧ i ≤ a.length ∧ L = [] ∧ p = none) (fun f _ _ => (a.length - ixS (f 5)).toNat) [] none ⟨SubO.nil _, PoSub.none _, ?_⟩ ?_
 ·simp only [tt, seval]
  exact ⟨0, rfl, by omega⟩
 ·rintro g L p ⟨i, h5, hi, rfl, rfl⟩
  simp only [tt, seval] at h5
  simp only [tt, seval, h5, Int.ofNat_lt]
  refine fun _ => And.intro (fun hlt => ?_) (fun hge => ?_)
  ·have hlt : i < a.length := by omega
   refine dDrawn.intro [] (pln [0, 2, 4, 6, 8, 10, 12, 14, 17, 18]) (by kernel_rfl) ?_
   simp only [tt, seval]
   simp only [tt, seval, h5]
   refine ⟨by omega, by omega, _, drop_row Tok.row_len (List.getElem?_eq_getElem hlt), Tok.ne _ _, ?_⟩
   simp only [tt, seval, h5, Tok.tk, Tok.row_len]
   refine ⟨by omega, by omega, _, drop_row Tok.row_len (List.getElem?_eq_getElem hlt), Tok.ne _ _, ?_⟩
   simp only [tt, seval, h5, Tok.tk, Tok.row_len]
   refine call0 (hx a[i] (List.getElem_mem hlt)) ?_ ?_ ?_
   ·decide
   ·simp only [tt, seval]
   rintro r rfl
   simp only [tt, seval, h5]
   rw [wrS i (by omega)]
   exact ⟨[], none, SubO.nil _, PoSub.none _, ⟨i + 1, rfl, by omega, rfl, rfl⟩, by simp only [ixS]; omega⟩
  ·exact ⟨_, _, rfl, end0 rfl⟩
theorem eqToks_d (a : List Tok) : Cl Tryz.prog 9 [.c (.sl a.length (a.flatMap Tok.row) none), .c (.sl a.length (a.flatMap Tok.row) none)] [] fun r _ => r = vb true := eqToks_step a fun x _ => by
 cases x; exact eqTok_step _ _ _
theorem heldToks_d (ms : List Tok) (k : Int) (h0 : 0 ≤ k) (hk : k + 3 * ms.length ≤ 4611686018427387904) (hm : ∀ i (h : i < ms.length), ms[i] = ⟨k + 3 * i, mtext (k + 3 * i + 1), k + 3 * i + 2⟩) : Cl Tryz.prog 13 [.c (.sl ms.length (ms.flatMap Tok.row) none), vi k] [] fun r _ => r = vi (k + 3 * ms.length) := by
 refine cl_of_d follows_mixed false Tryz.func13 rfl (by kernel_rfl) ?_
 simp only [Tryz.f13, tt, seval]
 refine dLoop.intro (fun f L p => ∃ i : Nat, f 5 = vi i ∧ f 1 = vi (k + 3 * i) ∧ i ≤ ms.length ∧ L = [] ∧ p = none) (fun f _ _ => (ms.length - ixS (f 5)).toNat) [] none ⟨SubO.nil _, PoSub.none _, ?_⟩ ?_
 ·simp only [tt, seval]
  exact ⟨0, rfl, viE (by omega), by omega⟩
 ·rintro g L p ⟨i, h5, h1, hi, rfl, rfl⟩
  simp only [tt, seval] at h5 h1
  simp only [tt, seval, h5, h1, Int.ofNat_lt]
  refine fun _ => And.intro (fun hlt => ?_) (fun hge => ?_)
  ·have hlt : i < ms.length := by omega
   have hx := (List.getElem?_eq_getElem hlt).trans (congrArg some (hm i hlt))
   have i0 : ((0 : Int) ≤ (i : Int)) = True := eq_true (by omega)
   have iL : ((i : Int) < (ms.length : Int)) = True := eq_true (by omega)
   have iT : (i < ms.length) = True := eq_true hlt
   simp only [tt, seval, h5, h1, idxAt hx Tok.row_len, i0, iL, iT, Tok.row]
   rw [wrap_id (n := k + 3 * (i : Int) + 1) (by omega) (by omega)]
   refine dDrawn.intro [] (pln [0, 2, 4, 6, 8, 10, 13, 14]) (by kernel_rfl) ?_
   simp only [tt, seval]
   try simp only [tt, seval, h5, h1, idxAt hx Tok.row_len, i0, iL, iT, Tok.row]
   refine call0 (markText_d (k + 3 * i + 1) (by omega)) ?_ ?_ ?_
   ·decide
   ·simp only [tt, seval, h5, h1, idxAt hx Tok.row_len, i0, iL, iT, Tok.row]
   rintro r rfl
   simp only [tt, seval, h5, h1, idxAt hx Tok.row_len, i0, iL, iT, Tok.row]
   rw [wrap_id (n := k + 3 * (i : Int) + 1 + 1) (by omega) (by omega)]
   have e2 : k + 3 * (i : Int) + 1 + 1 = k + 3 * i + 2 := by omega
   rw [e2]
   try simp only [tt, seval, h5, h1, idxAt hx Tok.row_len, i0, iL, iT, Tok.row]
   rw [wrap_id (n := k + 3 * (i : Int) + 2 + 1) (by omega) (by omega), wrap_id (n := (i : Int) + 1) (by omega) (by omega)]
   exact ⟨[], none, SubO.nil _, PoSub.none _, ⟨i + 1, rfl, viE (by omega), by omega, rfl, rfl⟩, by simp only [ixS]; omega⟩
  ·have : i = ms.length := by omega
   subst this
   exact ⟨_, _, rfl, end0 rfl⟩
end Go.Proofs.YthhkmmcgjnecbaaGreatDoor
set_option maxRecDepth 8000
namespace Go.Proofs.YthhkmmcgjnecbaaGreatDoor
open Go Go.Dv
open Go.Vc (D shrI xorI andI and255)
open Go.Cv
open Go.Vc (CellF ValsF callable Cells)
theorem relS_ag {P : Program} {w : World} {ds : List D} {vs : List Value} {F : List Nat} (h : ValsF w ds vs F) : RelS P w (fun _ => none) (fun _ => True) (.ag (csOf ds)) (.agg vs.toArray) := ⟨vs, rfl, csOf_rel h fun _ _ => trivial⟩
theorem relS_sl {P : Program} {w : World} {n : Nat} {ds : List D} {v : Value} {G : List Nat} (h : CellF w (.sl n ds) v G) : RelS P w (fun _ => none) (fun _ => True) (.c (.sl n ds none)) v := ⟨G, h, fun _ _ => trivial, fun _ h => by cases h⟩
theorem relS_q {P : Program} {w : World} {b : Nat} {ds : List D} {vs : List Value} {F : List Nat} {t : TypeId} (h : ValsF w ds vs F) (hb : w.heap[b]? = some (.cells vs.toArray t (0, 0))) : RelS P w (fun _ => none) (fun _ => True) (.c (.q ds)) (.pointer (some ⟨b, 0, none⟩)) :=
 ⟨b, 0, F, rfl, h.row fun j u hj => by rw [Nat.zero_add]; exact box_cell hb (by simpa using hj), ⟨_, hb, by simp [Go.Vc.hid]⟩, trivial, fun _ _ => trivial⟩
theorem plain_ag (ds : List D) : plainL ([S.ag (csOf ds)].flatMap cellsS) = true := by
 simp only [List.flatMap_cons, List.flatMap_nil, List.append_nil]; exact plainL_csOf _
theorem plain_agi (ds : List D) (k : Int) : plainL ([S.ag (csOf ds), vi k].flatMap cellsS) = true := by
 simp only [List.flatMap_cons, List.flatMap_nil, List.append_nil, plainL_append, cellsS, plainL_csOf, Bool.true_and]; rfl
theorem box_at {w : World} {b : Nat} {vs : List Value} {t : TypeId} (hb : w.heap[b]? = some (.cells vs.toArray t (0, 0))) : Cells w b 0 vs := fun j v hj => by
 rw [Nat.zero_add]; exact box_cell hb (by simpa using hj)
theorem _root_.Go.Cv.Gr.box {w w' : World} {b : Nat} {o : Obj} (g : Gr w w') (hb : w.heap[b]? = some o) : w'.heap[b]? = some o := (g.keep b (Array.getElem?_eq_some_iff.1 hb).1).trans hb
theorem _root_.Go.Cv.ChL.box {F : List Nat} {w w' : World} {b : Nat} {o : Obj} (g : ChL F w w') (hb : w.heap[b]? = some o) (hn : b ∉ F) : w'.heap[b]? = some o := (g.keep b (Array.getElem?_eq_some_iff.1 hb).1 hn).trans hb
theorem obj_lt {w : World} {b : Nat} {o : Obj} (hb : w.heap[b]? = some o) : b < w.heap.size := (Array.getElem?_eq_some_iff.1 hb).1
theorem glw_lt {w : World} (hg : GlW w (fun _ => False)) : ∀ t ∈ libVars, t.1 < w.heap.size := fun t ht => by
 obtain ⟨_, cs, ty, lh, h, _⟩ := hg t ht
 exact obj_lt h
theorem one' {w : World} {ds : List D} {vs : List Value} {F : List Nat} (h : ValsF w ds vs F) : ∀ v ∈ vs, v.oneCell' = true := fun v hv => by
 have := h.oneCell v hv
 revert this
 cases v <;> simp [Go.Vc.oneCell, Value.oneCell']
theorem box_fill {w w1 w2 : World} {b : Nat} {t : TypeId} {z vs : List Value} (hb : b = w.heap.size) (h1 : w1 = w.alloc (.cells z.toArray t)) (h2 : w1.setRow b vs.toArray = w2) (hl : vs.length = z.length) : w2.heap[b]? = some (.cells vs.toArray t (0, 0)) ∧ Gr w w2 := by
 obtain ⟨k1, k2⟩ := box_new hb h1
 subst h2
 refine ⟨setRow_heap w1 b _ _ t _ k1, Nat.le_trans k2.size (by simp), fun x hx => ?_, by rw [← k2.os]; rfl, by rw [← k2.tape]; rfl, by rw [← k2.output]; rfl⟩
 rw [← k2.keep x hx]
 have hne : x ≠ b := by omega
 simp [World.setRow, Array.getElem?_modify, Ne.symm hne]
theorem cnL_le {α : Type} {c s : α → Nat} {l : List α} (h : ∀ x ∈ l, c x ≤ 16 * s x + 16) : cnL c l ≤ 16 * (l.length + (l.map s).sum) := by
 induction l with
 | nil => exact Nat.zero_le _
 | cons x r ih =>
  have h1 := h x (by simp)
  have h2 := ih fun y hy => h y (by simp [hy])
  simp only [cnL, List.length_cons, List.map_cons, List.sum_cons]
  omega
theorem cn_all : (∀ a : Expr, cnExpr a ≤ 16 * szExpr a + 8) ∧ (∀ a : Item, cnItem a ≤ 16 * szItem a + 16) ∧ (∀ a : Source, cnSource a ≤ 16 * szSource a + 16) ∧ (∀ a : SortKey, cnSortKey a ≤ 16 * szSortKey a + 16) ∧ (∀ a : Query, cnQuery a ≤ 16 * szQuery a + 16) := by
 refine Expr.ind ?_ ?_ ?_ ?_ ?_
 ·intro kind op not val qual name kids sub hkids hsub
  rw [cnExpr_mk, szExpr_mk]
  try rw [szExprs_eq]
  try rw [szQuerys_eq]
  have := cnL_le (s := szExpr) (l := kids) fun x hx => Nat.le_trans (hkids x hx) (by omega)
  have := cnL_le (s := szQuery) (l := sub) fun x hx => Nat.le_trans (hsub x hx) (by omega)
  omega
 ·intro star qual e as_ he
  obtain ⟨e_kind, e_op, e_not, e_val, e_qual, e_name, e_kids, e_sub⟩ := e
  rw [cnExpr_mk] at he
  rw [cnItem_mk, szItem_mk]
  omega
 ·intro table as_ on hon
  rw [cnSource_mk, szSource_mk]
  try rw [szExprs_eq]
  have := cnL_le (s := szExpr) (l := on) fun x hx => Nat.le_trans (hon x hx) (by omega)
  omega
 ·intro e desc he
  obtain ⟨e_kind, e_op, e_not, e_val, e_qual, e_name, e_kids, e_sub⟩ := e
  rw [cnExpr_mk] at he
  rw [cnSortKey_mk, szSortKey_mk]
  omega
 ·intro distinct items from_ where_ order limit hitems hfrom_ hwhere_ horder
  rw [cnQuery_mk, szQuery_mk]
  try rw [szItems_eq]
  try rw [szSources_eq]
  try rw [szExprs_eq]
  try rw [szSortKeys_eq]
  have := cnL_le (s := szItem) (l := items) fun x hx => Nat.le_trans (hitems x hx) (by omega)
  have := cnL_le (s := szSource) (l := from_) fun x hx => Nat.le_trans (hfrom_ x hx) (by omega)
  have := cnL_le (s := szExpr) (l := where_) fun x hx => Nat.le_trans (hwhere_ x hx) (by omega)
  have := cnL_le (s := szSortKey) (l := order) fun x hx => Nat.le_trans (horder x hx) (by omega)
  omega
theorem cnExpr_le (a : Expr) : cnExpr a ≤ 16 * szExpr a + 8 := cn_all.1 a
theorem cnItem_le (a : Item) : cnItem a ≤ 16 * szItem a + 16 := cn_all.2.1 a
theorem cnSource_le (a : Source) : cnSource a ≤ 16 * szSource a + 16 := cn_all.2.2.1 a
theorem cnSortKey_le (a : SortKey) : cnSortKey a ≤ 16 * szSortKey a + 16 := cn_all.2.2.2.1 a
theorem markQuery_q (a : Query) (q : Int) (w : World) (vs : List Value) (F : List Nat) (h : ValsF w a.row vs F) (hn : F.Nodup) (ho : OwnL w F) (hg : GlW w (fun _ => False)) (hlib : ∀ t ∈ libVars, t.1 ∉ F) (h0 : 0 ≤ q) (h1 : q ≤ 10) (hs : szQuery a ≤ 1048576) :
 callable Tryz.prog 11 = true ∧ Calls Tryz.prog 11 #[.agg vs.toArray, .int .i64 q] w fun e w' => ∃ r, e = .returned r ∧ (∃ m : Int, r = .int .i64 m ∧ 0 ≤ m ∧ m ≤ q + 16 * szQuery a + 16) ∧ ChL F w w' := by
 obtain ⟨distinct, items, from_, where_, order, limit⟩ := a
 rw [szQuery_mk] at hs ⊢
 have citems := cnL_le (s := szItem) (l := items) fun x _ => Nat.le_trans (cnItem_le x) (by omega)
 have cfrom_ := cnL_le (s := szSource) (l := from_) fun x _ => Nat.le_trans (cnSource_le x) (by omega)
 have cwhere_ := cnL_le (s := szExpr) (l := where_) fun x _ => Nat.le_trans (cnExpr_le x) (by omega)
 have corder := cnL_le (s := szSortKey) (l := order) fun x _ => Nat.le_trans (cnSortKey_le x) (by omega)
 have hs' := hs
 try simp only [szItems_eq, szSources_eq, szExprs_eq, szSortKeys_eq] at hs' ⊢
 obtain ⟨k1, k2⟩ := markQuery_c _ _ _ _ _ _ q w vs F h hn ho hg hlib h0 (by omega)
 refine ⟨k1, k2.mono ?_⟩
 rintro e w' ⟨r, h1, rfl, _, _, hc⟩
 exact ⟨_, h1, ⟨_, rfl, by omega, by omega⟩, hc⟩
set_option maxHeartbeats 8000000 in
theorem markStrings_c (es : List ByteArray) : MkC 53 srow (fun k _ => mtext k) (fun _ => 1) es := by
 intro w k v F h hn ho hg hlib h0 h1
 obtain ⟨a, cap, rfl, hcap, hmax, hz⟩ := h.slice
 have hmax' : cap ≤ 9223372036854775807 := hmax
 have hM := Mrk.start h hn ho
 clear h hn ho
 refine ⟨by kernel_rfl, calls_of_c (vs := [.slice a es.length cap, .int .i64 k]) Tryz.func53 rfl (Nat.le_of_ble_eq_true rfl) ?_⟩
 simp (maxSteps := 10000000) only [tt, c, cl, cg0, cg1, cOp, cCall, cLoad, cLoadA, cStore, cLoop, cEnd, cRet, argsV, regsV, Go.Vc.oneCell, Nat.add_zero, seval, Tryz.f53]
 refine ⟨fun f w1 => ∃ i : Nat, f 5 = vi i ∧ f 1 = vi (k + cnL (fun _ => 1) (es.take i)) ∧ i ≤ es.length ∧ Mrk w F w1 a ((mkL (fun k _ => mtext k) (fun _ => 1) k (es.take i)).flatMap srow) ((es.drop i).flatMap srow), fun f _ => (es.length - ixS (f 5)).toNat, ?_, ?_⟩
 ·simp (maxSteps := 10000000) only [tt, c, cl, cg0, cg1, cOp, cCall, cLoad, cLoadA, cStore, cLoop, cEnd, cRet, argsV, regsV, Go.Vc.oneCell, Nat.add_zero, seval]
  exact ⟨0, rfl, viE (by simp [cnL]), by omega, by simpa [mkL] using hM⟩
 ·rintro g w0 ⟨i, h5, h1', hi, hM⟩
  simp (maxSteps := 10000000) only [tt, c, cl, cg0, cg1, cOp, cCall, cLoad, cLoadA, cStore, cLoop, cEnd, cRet, argsV, regsV, Go.Vc.oneCell, Nat.add_zero, seval] at h5 h1'
  simp (maxSteps := 10000000) only [tt, c, cl, cg0, cg1, cOp, cCall, cLoad, cLoadA, cStore, cLoop, cEnd, cRet, argsV, regsV, Go.Vc.oneCell, Nat.add_zero, seval, h5, h1', Int.ofNat_lt]
  refine And.intro (fun hlt => ?_) (fun hge => ?_)
  ·have hlt : i < es.length := by omega
   have hd : es.drop i = es[i] :: es.drop (i + 1) := List.drop_eq_getElem_cons hlt
   have hks := cnL_take_succ (fun _ => 1) es i hlt
   have hkl := cnL_take_le (fun _ => 1) es (i + 1)
   have hts := mkL_take_succ (fun k _ => mtext k) (fun _ => 1) k es i hlt
   have hdl : ((mkL (fun k _ => mtext k) (fun _ => 1) k (es.take i)).flatMap srow).length = i * 1 := by rw [flatMap_len srow_len, mkL_len, List.length_take]; congr 1; omega
   rw [hd, List.flatMap_cons] at hM
   generalize hk0 : k + (cnL (fun _ => 1) (es.take i) : Int) = k0 at *
   generalize hdone : (mkL (fun k _ => mtext k) (fun _ => 1) k (es.take i)).flatMap srow = done at *
   obtain ⟨e, he⟩ : ∃ e, es[i] = e := ⟨_, rfl⟩
   rw [he] at hM
   replace hks : cnL (fun _ => 1) (es.take (i + 1)) = cnL (fun _ => 1) (es.take i) + 1 := hks
   simp only [srow, List.cons_append, List.nil_append] at hM
   obtain ⟨b, o, rfl, hM0⟩ := hM.open (by simp)
   clear hM
   have hc0 := hM0.chl
   obtain ⟨hcb0, hcl0⟩ := markText_c k0 w0 (glw_chl hc0 hg hlib) (by omega)
   refine ⟨hcb0, _, hcl0, ?_⟩
   rintro _ w1 ⟨rfl, hgr0⟩
   replace hM1 := hM0.grow hgr0
   have hc1 := hM1.chl
   refine Stp.go ?_
   simp (maxSteps := 10000000) only [tt, c, cl, cg0, cg1, cOp, cCall, cLoad, cLoadA, cStore, cLoop, cEnd, cRet, argsV, regsV, Go.Vc.oneCell, Nat.add_zero, seval, h5, h1']
   obtain ⟨q0, z0, w2, e1, hM2⟩ := Mrk1.st hM1 (o + i * 1) (.string (mtext k0)) (by simp [hdl]; try omega) (mtext_ok (by omega))
   have hc2 := hM2.chl
   refine ⟨by omega, by omega, q0, z0, w2, e1, Stp.go ?_⟩
   simp (maxSteps := 10000000) only [tt, c, cl, cg0, cg1, cOp, cCall, cLoad, cLoadA, cStore, cLoop, cEnd, cRet, argsV, regsV, Go.Vc.oneCell, Nat.add_zero, seval, h5, h1']
   rw [wrap_id (n := k0 + 1) (by omega) (by omega)]
   generalize hk1 : k0 + 1 = k1 at *
   rw [wrS i (by omega)]
   refine ⟨⟨i + 1, rfl, viE (by rw [hks]; omega), by omega, ?_⟩, by simp only [ixS]; omega⟩
   rw [hts, List.flatMap_append]
   have := hM2.close
   rw [hdone]
   simpa [srow, List.cons_append, List.nil_append, Val.row, hk1, mkL_len, int, bool, str] using this
  ·have : i = es.length := by omega
   subst this
   rw [List.take_length, List.drop_length] at hM
   obtain ⟨hc, ho, hcg⟩ := hM.done hcap hmax hz
   exact ⟨by rw [List.take_length], hc, ho, hcg⟩
mutual
def cnERow : ERow → Nat
 | .mk l => 0 + cnL cnExpr l
end
mutual
def mkERow : Int → ERow → ERow
 | q, .mk l => .mk (mkL mkExpr cnExpr (q) l)
end
theorem cnERow_mk (l : List Expr) : cnERow (.mk l) = 0 + cnL cnExpr l := by simp only [cnERow, ]
theorem mkERow_mk (q : Int) (l : List Expr) : mkERow q (.mk l) = .mk (mkL mkExpr cnExpr (q) l) := by simp only [mkERow, ]
set_option maxHeartbeats 8000000 in
theorem markERows_step (es : List ERow) : MkC 52 ERow.row mkERow cnERow es := by
 intro w k v F h hn ho hg hlib h0 h1
 obtain ⟨a, cap, rfl, hcap, hmax, hz⟩ := h.slice
 have hmax' : cap ≤ 9223372036854775807 := hmax
 have hM := Mrk.start h hn ho
 clear h hn ho
 refine ⟨by kernel_rfl, calls_of_c (vs := [.slice a es.length cap, .int .i64 k]) Tryz.func52 rfl (Nat.le_of_ble_eq_true rfl) ?_⟩
 simp (maxSteps := 10000000) only [tt, c, cl, cg0, cg1, cOp, cCall, cLoad, cLoadA, cStore, cLoop, cEnd, cRet, argsV, regsV, Go.Vc.oneCell, Nat.add_zero, seval, Tryz.f52]
 refine ⟨fun f w1 => ∃ i : Nat, f 5 = vi i ∧ f 1 = vi (k + cnL cnERow (es.take i)) ∧ i ≤ es.length ∧ Mrk w F w1 a ((mkL mkERow cnERow k (es.take i)).flatMap ERow.row) ((es.drop i).flatMap ERow.row), fun f _ => (es.length - ixS (f 5)).toNat, ?_, ?_⟩
 ·simp (maxSteps := 10000000) only [tt, c, cl, cg0, cg1, cOp, cCall, cLoad, cLoadA, cStore, cLoop, cEnd, cRet, argsV, regsV, Go.Vc.oneCell, Nat.add_zero, seval]
  exact ⟨0, rfl, viE (by simp [cnL]), by omega, by simpa [mkL] using hM⟩
 ·rintro g w0 ⟨i, h5, h1', hi, hM⟩
  simp (maxSteps := 10000000) only [tt, c, cl, cg0, cg1, cOp, cCall, cLoad, cLoadA, cStore, cLoop, cEnd, cRet, argsV, regsV, Go.Vc.oneCell, Nat.add_zero, seval] at h5 h1'
  simp (maxSteps := 10000000) only [tt, c, cl, cg0, cg1, cOp, cCall, cLoad, cLoadA, cStore, cLoop, cEnd, cRet, argsV, regsV, Go.Vc.oneCell, Nat.add_zero, seval, h5, h1', Int.ofNat_lt]
  refine And.intro (fun hlt => ?_) (fun hge => ?_)
  ·have hlt : i < es.length := by omega
   have hd : es.drop i = es[i] :: es.drop (i + 1) := List.drop_eq_getElem_cons hlt
   have hks := cnL_take_succ cnERow es i hlt
   have hkl := cnL_take_le cnERow es (i + 1)
   have hts := mkL_take_succ mkERow cnERow k es i hlt
   have hdl : ((mkL mkERow cnERow k (es.take i)).flatMap ERow.row).length = i * 1 := by rw [flatMap_len ERow.row_len, mkL_len, List.length_take]; congr 1; omega
   rw [hd, List.flatMap_cons] at hM
   generalize hk0 : k + (cnL cnERow (es.take i) : Int) = k0 at *
   generalize hdone : (mkL mkERow cnERow k (es.take i)).flatMap ERow.row = done at *
   obtain ⟨e, he⟩ : ∃ e, es[i] = e := ⟨_, rfl⟩
   rw [he] at hks hts hM
   obtain ⟨l⟩ := e
   rw [cnERow_mk] at hks
   simp only [ERow.row_mk, List.cons_append, List.nil_append, Val.row] at hM
   obtain ⟨b, o, rfl, hM0⟩ := hM.open (by simp)
   clear hM
   have hc0 := hM0.chl
   obtain ⟨v0, G0, hv0, hd0, nd0, ow0, sb0, nx0⟩ := Mrk1.load hM0 (p := o + i * 1) (by simp [hdl]; try omega)
   refine ⟨by omega, by omega, _, hv0, ?_⟩
   obtain ⟨hcb0, hcl0⟩ := markExprs_c _ w0 k0 v0 G0 hd0 nd0 ow0 (glw_chl hc0 hg hlib) (fun t ht hm => hlib t ht (sb0 _ hm)) (by omega) (by omega)
   refine ⟨hcb0, _, hcl0, ?_⟩
   rintro _ w1 ⟨rfl, cd0, ow0', cg0⟩
   have hM1 := nx0 _ _ cg0 cd0 ow0'
   have hc1 := hM1.chl
   refine Stp.go ?_
   simp (maxSteps := 10000000) only [tt, c, cl, cg0, cg1, cOp, cCall, cLoad, cLoadA, cStore, cLoop, cEnd, cRet, argsV, regsV, Go.Vc.oneCell, Nat.add_zero, seval, h5, h1']
   generalize hk1 : k0 + (cnL cnExpr l : Int) = k1 at *
   rw [wrS i (by omega)]
   refine ⟨⟨i + 1, rfl, viE (by rw [hks]; omega), by omega, ?_⟩, by simp only [ixS]; omega⟩
   rw [hts, List.flatMap_append]
   have := hM1.close
   rw [hdone]
   simpa [mkERow_mk, ERow.row_mk, List.cons_append, List.nil_append, Val.row, hk1, mkL_len, int, bool, str] using this
  ·have : i = es.length := by omega
   subst this
   rw [List.take_length, List.drop_length] at hM
   obtain ⟨hc, ho, hcg⟩ := hM.done hcap hmax hz
   exact ⟨by rw [List.take_length], hc, ho, hcg⟩
theorem markERows_c (es : List ERow) : MkC 52 ERow.row mkERow cnERow es := markERows_step es
theorem box_sub {w : World} {b : Nat} {t : TypeId} (pre va post : List Value) (hb : w.heap[b]? = some (.cells (pre ++ (va ++ post)).toArray t (0, 0))) : Cells w b pre.length va := fun j v hj => box_cell hb (by
 rw [List.getElem?_toArray, List.getElem?_append_right (by omega), Nat.add_sub_cancel_left, List.getElem?_append_left (List.getElem?_eq_some_iff.1 hj).1]; exact hj)
set_option maxHeartbeats 1000000 in
theorem markStmt_q (a : Stmt) (q : Int) (w : World) (vs : List Value) (F : List Nat) (h : ValsF w a.row vs F) (hn : F.Nodup) (ho : OwnL w F) (hg : GlW w (fun _ => False)) (hlib : ∀ t ∈ libVars, t.1 ∉ F) (h0 : 0 ≤ q) (h1 : q ≤ 10) (hs : szStmt a ≤ 1048576) :
 callable Tryz.prog 19 = true ∧ Calls Tryz.prog 19 #[.agg vs.toArray, .int .i64 q] w fun e w' => ∃ r, e = .returned r ∧ (∃ m : Int, r = .int .i64 m ∧ 0 ≤ m ∧ m ≤ q + 16 * szStmt a + 32) ∧ ChL F w w' := by
 obtain ⟨kind, query, table, rows, cols, sets, where2⟩ := a
 rw [szStmt_mk] at hs ⊢
 have kR : cnL cnERow rows ≤ 16 * szERows rows := by
  rw [szERows_eq]
  refine cnL_le (s := szERow) fun x _ => ?_
  obtain ⟨l⟩ := x
  rw [cnERow_mk, szERow_mk, szExprs_eq]
  have := cnL_le (s := szExpr) (l := l) fun x _ => Nat.le_trans (cnExpr_le x) (by omega)
  omega
 have kC : cnL (fun _ => 1) cols ≤ szTexts cols := by
  have : ∀ l : List ByteArray, cnL (fun _ => 1) l = l.length := fun l => by
   induction l with
   | nil => rfl
   | cons x r ih => rw [cnL, ih, List.length_cons]; omega
  rw [this]; unfold szTexts; omega
 have kS : cnL cnExpr sets ≤ 16 * szExprs sets := by
  rw [szExprs_eq]; exact cnL_le (s := szExpr) fun x _ => Nat.le_trans (cnExpr_le x) (by omega)
 have kW : cnL cnExpr where2 ≤ 16 * szExprs where2 := by
  rw [szExprs_eq]; exact cnL_le (s := szExpr) fun x _ => Nat.le_trans (cnExpr_le x) (by omega)
 simp only [Stmt.row_mk] at h
 obtain ⟨v0, r0, F0, R0, rfl, c0, hh0, rfl⟩ := vals_cons h
 obtain ⟨rfl, rfl, ok0⟩ := c0
 obtain ⟨va, vb, Fa, Rb, rfl, rfl, ca, hhb⟩ := ValsF.split hh0
 obtain ⟨v1, r1, F1, R1, rfl, c1, hh1, rfl⟩ := vals_cons hhb
 obtain ⟨rfl, rfl, ok1⟩ := c1
 obtain ⟨v2, r2, F2, R2, rfl, c2, hh2, rfl⟩ := vals_cons hh1
 obtain ⟨v3, r3, F3, R3, rfl, c3, hh3, rfl⟩ := vals_cons hh2
 obtain ⟨v4, r4, F4, R4, rfl, c4, hh4, rfl⟩ := vals_cons hh3
 obtain ⟨v5, r5, F5, R5, rfl, c5, hh5, rfl⟩ := vals_cons hh4
 obtain ⟨rfl, rfl⟩ := vals_nil hh5
 simp only [List.nil_append, List.append_nil] at hn ho hlib ⊢
 have hva : va.length = 6 := ca.length.trans (Query.row_len query)
 have na : Fa.Nodup := nodup_of hn (by intro x; simp only [List.count_append]; omega)
 have n2 : F2.Nodup := nodup_of hn (by intro x; simp only [List.count_append]; omega)
 have n3 : F3.Nodup := nodup_of hn (by intro x; simp only [List.count_append]; omega)
 have n4 : F4.Nodup := nodup_of hn (by intro x; simp only [List.count_append]; omega)
 have n5 : F5.Nodup := nodup_of hn (by intro x; simp only [List.count_append]; omega)
 have oa : OwnL w Fa := ho.sub (by intro x hx; simp [hx])
 have la : ∀ t ∈ libVars, t.1 ∉ Fa := fun t ht hm => hlib t ht (by simp [hm])
 have o2 : OwnL w F2 := ho.sub (by intro x hx; simp [hx])
 have l2 : ∀ t ∈ libVars, t.1 ∉ F2 := fun t ht hm => hlib t ht (by simp [hm])
 have o3 : OwnL w F3 := ho.sub (by intro x hx; simp [hx])
 have l3 : ∀ t ∈ libVars, t.1 ∉ F3 := fun t ht hm => hlib t ht (by simp [hm])
 have o4 : OwnL w F4 := ho.sub (by intro x hx; simp [hx])
 have l4 : ∀ t ∈ libVars, t.1 ∉ F4 := fun t ht hm => hlib t ht (by simp [hm])
 have o5 : OwnL w F5 := ho.sub (by intro x hx; simp [hx])
 have l5 : ∀ t ∈ libVars, t.1 ∉ F5 := fun t ht hm => hlib t ht (by simp [hm])
 have da_2 : ∀ x ∈ Fa, x ∉ F2 := fun x hx hy => disj_of hn (by intro x; simp only [List.count_append]; omega) x hx hy
 have da_3 : ∀ x ∈ Fa, x ∉ F3 := fun x hx hy => disj_of hn (by intro x; simp only [List.count_append]; omega) x hx hy
 have da_4 : ∀ x ∈ Fa, x ∉ F4 := fun x hx hy => disj_of hn (by intro x; simp only [List.count_append]; omega) x hx hy
 have da_5 : ∀ x ∈ Fa, x ∉ F5 := fun x hx hy => disj_of hn (by intro x; simp only [List.count_append]; omega) x hx hy
 have d2_a : ∀ x ∈ F2, x ∉ Fa := fun x hx hy => disj_of hn (by intro x; simp only [List.count_append]; omega) x hx hy
 have d2_3 : ∀ x ∈ F2, x ∉ F3 := fun x hx hy => disj_of hn (by intro x; simp only [List.count_append]; omega) x hx hy
 have d2_4 : ∀ x ∈ F2, x ∉ F4 := fun x hx hy => disj_of hn (by intro x; simp only [List.count_append]; omega) x hx hy
 have d2_5 : ∀ x ∈ F2, x ∉ F5 := fun x hx hy => disj_of hn (by intro x; simp only [List.count_append]; omega) x hx hy
 have d3_a : ∀ x ∈ F3, x ∉ Fa := fun x hx hy => disj_of hn (by intro x; simp only [List.count_append]; omega) x hx hy
 have d3_2 : ∀ x ∈ F3, x ∉ F2 := fun x hx hy => disj_of hn (by intro x; simp only [List.count_append]; omega) x hx hy
 have d3_4 : ∀ x ∈ F3, x ∉ F4 := fun x hx hy => disj_of hn (by intro x; simp only [List.count_append]; omega) x hx hy
 have d3_5 : ∀ x ∈ F3, x ∉ F5 := fun x hx hy => disj_of hn (by intro x; simp only [List.count_append]; omega) x hx hy
 have d4_a : ∀ x ∈ F4, x ∉ Fa := fun x hx hy => disj_of hn (by intro x; simp only [List.count_append]; omega) x hx hy
 have d4_2 : ∀ x ∈ F4, x ∉ F2 := fun x hx hy => disj_of hn (by intro x; simp only [List.count_append]; omega) x hx hy
 have d4_3 : ∀ x ∈ F4, x ∉ F3 := fun x hx hy => disj_of hn (by intro x; simp only [List.count_append]; omega) x hx hy
 have d4_5 : ∀ x ∈ F4, x ∉ F5 := fun x hx hy => disj_of hn (by intro x; simp only [List.count_append]; omega) x hx hy
 have d5_a : ∀ x ∈ F5, x ∉ Fa := fun x hx hy => disj_of hn (by intro x; simp only [List.count_append]; omega) x hx hy
 have d5_2 : ∀ x ∈ F5, x ∉ F2 := fun x hx hy => disj_of hn (by intro x; simp only [List.count_append]; omega) x hx hy
 have d5_3 : ∀ x ∈ F5, x ∉ F3 := fun x hx hy => disj_of hn (by intro x; simp only [List.count_append]; omega) x hx hy
 have d5_4 : ∀ x ∈ F5, x ∉ F4 := fun x hx hy => disj_of hn (by intro x; simp only [List.count_append]; omega) x hx hy
 refine ⟨by kernel_rfl, ?_⟩
 have hcc := fun R => @calls_of_c Tryz.prog w 19 Tryz.f19 _ [.agg (.int .i64 kind :: (va ++ [.string table, v2, v3, v4, v5]) : List Value).toArray, .int .i64 q] R Tryz.func19 rfl (Nat.le_of_ble_eq_true rfl)
 refine hcc _ ?_
 simp (maxSteps := 10000000) only [tt, c, cl, cg0, cg1, cOp, cCall, cLoad, cLoadA, cStore, cLoop, cEnd, cRet, argsV, regsV, Go.Vc.oneCell, Nat.add_zero, seval, Tryz.f19, cBox]
 intro b w1 hb hw1
 obtain ⟨hbx, hg1⟩ := box_new hb hw1
 try simp only [List.toList_toArray, Array.toArray_toList] at hbx
 have hlt : ∀ x ∈ Fa ++ (F2 ++ (F3 ++ (F4 ++ F5))), x < b := fun x hx => by rw [hb]; exact Go.Cv.vis_lt (ho.vis x hx)
 replace ca := ca.grow hg1.grow
 replace oa := oa.grow hg1.grow
 replace c2 := c2.grow hg1.grow
 replace o2 := o2.grow hg1.grow
 replace c3 := c3.grow hg1.grow
 replace o3 := o3.grow hg1.grow
 replace c4 := c4.grow hg1.grow
 replace o4 := o4.grow hg1.grow
 replace c5 := c5.grow hg1.grow
 replace o5 := o5.grow hg1.grow
 have hG := glw_gr hg1 hg
 refine ⟨va, hva, box_sub [.int .i64 kind] va _ hbx, ?_⟩
 obtain ⟨hcba, hcla⟩ := markQuery_q query q w1 va Fa ca na oa hG la h0 h1 (by omega)
 refine ⟨hcba, _, hcla, ?_⟩
 rintro _ w2 ⟨⟨m, rfl, hm0, hm1⟩, ga⟩
 replace hbx := (ga.keep b (lt_of_heap hbx) (fun hm => absurd (hlt b (by simp [hm])) (Nat.lt_irrefl _))).trans hbx
 replace hG := glw_chl ga hG la
 replace c2 := c2.chg ga.chg d2_a
 replace o2 := o2.other ga d2_a
 replace c3 := c3.chg ga.chg d3_a
 replace o3 := o3.other ga d3_a
 replace c4 := c4.chg ga.chg d4_a
 replace o4 := o4.other ga d4_a
 replace c5 := c5.chg ga.chg d5_a
 replace o5 := o5.other ga d5_a
 have gg0 : ChL (Fa ++ (F2 ++ (F3 ++ (F4 ++ F5)))) w1 w2 := ga.mono (by intro x hx; simp [hx])
 refine Stp.go ?_
 simp (maxSteps := 10000000) only [tt, c, cl, cg0, cg1, cOp, cCall, cLoad, cLoadA, cStore, cLoop, cEnd, cRet, argsV, regsV, Go.Vc.oneCell, Nat.add_zero, seval]
 refine ⟨v2, box_cell hbx (by simp [List.getElem?_append, hva]), ?_⟩
 obtain ⟨hcb2, hcl2⟩ := markERows_c rows w2 (m) v2 F2 c2 n2 o2 hG l2 (by omega) (by omega)
 refine ⟨hcb2, _, hcl2, ?_⟩
 rintro _ w3 ⟨rfl, _, _, g2⟩
 replace hbx := (g2.keep b (lt_of_heap hbx) (fun hm => absurd (hlt b (by simp [hm])) (Nat.lt_irrefl _))).trans hbx
 replace hG := glw_chl g2 hG l2
 replace c3 := c3.chg g2.chg d3_2
 replace o3 := o3.other g2 d3_2
 replace c4 := c4.chg g2.chg d4_2
 replace o4 := o4.other g2 d4_2
 replace c5 := c5.chg g2.chg d5_2
 replace o5 := o5.other g2 d5_2
 have gg1 : ChL (Fa ++ (F2 ++ (F3 ++ (F4 ++ F5)))) w2 w3 := g2.mono (by intro x hx; simp [hx])
 refine Stp.go ?_
 simp (maxSteps := 10000000) only [tt, c, cl, cg0, cg1, cOp, cCall, cLoad, cLoadA, cStore, cLoop, cEnd, cRet, argsV, regsV, Go.Vc.oneCell, Nat.add_zero, seval]
 refine ⟨v3, box_cell hbx (by simp [List.getElem?_append, hva]), ?_⟩
 obtain ⟨hcb3, hcl3⟩ := markStrings_c cols w3 (m + (cnL cnERow rows : Nat)) v3 F3 c3 n3 o3 hG l3 (by omega) (by omega)
 refine ⟨hcb3, _, hcl3, ?_⟩
 rintro _ w4 ⟨rfl, _, _, g3⟩
 replace hbx := (g3.keep b (lt_of_heap hbx) (fun hm => absurd (hlt b (by simp [hm])) (Nat.lt_irrefl _))).trans hbx
 replace hG := glw_chl g3 hG l3
 replace c4 := c4.chg g3.chg d4_3
 replace o4 := o4.other g3 d4_3
 replace c5 := c5.chg g3.chg d5_3
 replace o5 := o5.other g3 d5_3
 have gg2 : ChL (Fa ++ (F2 ++ (F3 ++ (F4 ++ F5)))) w3 w4 := g3.mono (by intro x hx; simp [hx])
 refine Stp.go ?_
 simp (maxSteps := 10000000) only [tt, c, cl, cg0, cg1, cOp, cCall, cLoad, cLoadA, cStore, cLoop, cEnd, cRet, argsV, regsV, Go.Vc.oneCell, Nat.add_zero, seval]
 refine ⟨v4, box_cell hbx (by simp [List.getElem?_append, hva]), ?_⟩
 obtain ⟨hcb4, hcl4⟩ := markExprs_c sets w4 (m + (cnL cnERow rows : Nat) + (cnL (fun _ => 1) cols : Nat)) v4 F4 c4 n4 o4 hG l4 (by omega) (by omega)
 refine ⟨hcb4, _, hcl4, ?_⟩
 rintro _ w5 ⟨rfl, _, _, g4⟩
 replace hbx := (g4.keep b (lt_of_heap hbx) (fun hm => absurd (hlt b (by simp [hm])) (Nat.lt_irrefl _))).trans hbx
 replace hG := glw_chl g4 hG l4
 replace c5 := c5.chg g4.chg d5_4
 replace o5 := o5.other g4 d5_4
 have gg3 : ChL (Fa ++ (F2 ++ (F3 ++ (F4 ++ F5)))) w4 w5 := g4.mono (by intro x hx; simp [hx])
 refine Stp.go ?_
 simp (maxSteps := 10000000) only [tt, c, cl, cg0, cg1, cOp, cCall, cLoad, cLoadA, cStore, cLoop, cEnd, cRet, argsV, regsV, Go.Vc.oneCell, Nat.add_zero, seval]
 refine ⟨v5, box_cell hbx (by simp [List.getElem?_append, hva]), ?_⟩
 obtain ⟨hcb5, hcl5⟩ := markExprs_c where2 w5 (m + (cnL cnERow rows : Nat) + (cnL (fun _ => 1) cols : Nat) + (cnL cnExpr sets : Nat)) v5 F5 c5 n5 o5 hG l5 (by omega) (by omega)
 refine ⟨hcb5, _, hcl5, ?_⟩
 rintro _ w6 ⟨rfl, _, _, g5⟩
 replace hbx := (g5.keep b (lt_of_heap hbx) (fun hm => absurd (hlt b (by simp [hm])) (Nat.lt_irrefl _))).trans hbx
 replace hG := glw_chl g5 hG l5
 have gg4 : ChL (Fa ++ (F2 ++ (F3 ++ (F4 ++ F5)))) w5 w6 := g5.mono (by intro x hx; simp [hx])
 refine Stp.go ?_
 simp (maxSteps := 10000000) only [tt, c, cl, cg0, cg1, cOp, cCall, cLoad, cLoadA, cStore, cLoop, cEnd, cRet, argsV, regsV, Go.Vc.oneCell, Nat.add_zero, seval]
 exact ⟨⟨_, rfl, by omega, by omega⟩, ((((hg1.chl _).trans gg0).trans gg1).trans gg2).trans gg3 |>.trans gg4⟩
end Go.Proofs.YthhkmmcgjnecbaaGreatDoor
