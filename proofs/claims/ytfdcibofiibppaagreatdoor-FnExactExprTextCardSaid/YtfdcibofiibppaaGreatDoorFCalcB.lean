/-
  The calculus over data trees is sound, second half; its equations.
  Conditions: none.
-/
import Derived.Test.YtfdcibofiibppaaGreatDoorFCalcA
import Derived.Laws.Strings3
import Derived.Laws.DeepStrings4
set_option linter.unusedVariables false
set_option linter.unusedSimpArgs false
namespace Go.Dv
open Go Go.RowKit
open Go.Vc (vis vis_of_cell CellF RowF ValsF D inN okV callable wp_value Stay)

section
variable {P : Program} {n : Nat} {w0 : World} {ok0 own0 : Nat → Prop} {β : Nat → Option Nat} {f : Rg} {L : Ob} {p : Po} {a : Act} {w : World}
  {K : K0} {Ka : Act → World → Prop} {Q : Exit → Act → World → Prop}

theorem look_expAO_none : ∀ (xs : List S) (b i : Nat), fam i < 9500 → 9500 ≤ b → b + xs.length < 10000 → look (expAO b xs) i = none
  | [], _, _, _, _, _ => rfl
  | x :: r, b, i, hi, hb, hl => by
    simp only [expAO, look_append, Option.or_eq_none_iff]
    refine ⟨?_, look_expAO_none r (b + 1) i hi (by omega) (by simp at hl; omega)⟩
    cases hx : look (expO b (cellsS x)) i with
    | none => rfl
    | some o =>
      obtain ⟨j, _, _, _, _, h1, _⟩ := look_expO hx
      rw [h1, fam_add] at hi
      have : fam b = b := fam_fam (by omega)
      omega
theorem look_expAO_arr : ∀ {xs : List S} {b i : Nat} {o : O}, look (expAO b xs) i = some o → ∃ ty m ds F, o = .arr ty m ds F
  | [], _, _, _, h => by simp [expAO, look] at h
  | x :: r, b, i, o, h => by
    simp only [expAO, look_append] at h
    cases hx : look (expO b (cellsS x)) i with
    | some o' =>
      simp [hx] at h; subst h
      obtain ⟨_, ty, m, ds, F, _, _, h1⟩ := look_expO hx
      exact ⟨ty, m, ds, F, h1⟩
    | none => simp [hx] at h; exact look_expAO_arr h
theorem look_back_res {r : S} {objs : List (List C)} {j : Nat} {ty m ds F} (h : (cellsS r)[j]? = some (.ow ty m ds F)) : look (back r objs) (9700 + 10000 * j) = some (.arr ty m ds F) := by
  rw [back, look_append, look_expO' h]; rfl
theorem look_back_obj {r : S} {objs : List (List C)} {i : Nat} {o : O} (hi : fam i < 9700) (h : look (expB 0 objs) i = some o) : look (back r objs) i = some o := by
  rw [back, look_append]
  have : look (expO 9700 (cellsS r)) i = none := by
    cases hx : look (expO 9700 (cellsS r)) i with
    | none => rfl
    | some o' =>
      obtain ⟨j, _, _, _, _, h1, _⟩ := look_expO hx
      rw [h1, fam_add] at hi
      simp [fam] at hi
  rw [this]; simpa using h

theorem RelL.okmono {ok ok' : Nat → Prop} {β : Nat → Option Nat} {w : World} (h : ∀ b, ok b → ok' b) : ∀ {xs : List C} {ys : List Value}, RelL P w β ok xs ys → RelL P w β ok' xs ys
  | [], [], _ => trivial
  | _ :: _, _ :: _, h1 => ⟨h1.1.okmono h, h1.2.okmono h⟩
  | [], _ :: _, h1 => h1.elim
  | _ :: _, [], h1 => h1.elim
theorem callN_sound {q : Bool} {o : Oper} {g : FuncId} {sargs : List S} {va : List Value} {d : Nat} {R : List C → Prop} (hn : n ≤ 9000) (hs : Sim P n w0 ok0 own0 β f L p a w) (hargs : RelA P w β (okB w0 ok0 L β) sargs va)
    (hrun : callable P g = true → (execOp a.eval o).run P w = .ok (.enter g va.toArray) w) (hod : (o.dst : Option Nat) = some d) (hdn : d < n) (hN : ClN P g sargs R)
    (hk : ∀ cs, R cs → K (upd (kR [d] [] f) d (.c (.p d 0))) ((d, .str cs) :: kL [d] [] L) p)
    (hK : ∀ β' f' L' p' a' w', Sim P n w0 ok0 own0 β' f' L' p' a' w' → Keep o.dst.toList β a β' a' → Tr L β w L' β' w' → (q = true → Stay w w') → K f' L' p' → Ka a' w') : o.wp P a w Ka Q := by
  have hf : fam d = d := Nat.mod_eq_of_lt (by omega)
  unfold Oper.wp
  rw [hrun hN.1, Oper.upon_enter]
  refine (hN.2 w β _ va hargs (hs.gl.mono (fun _ _ _ => rfl) fun _ h => h.elim)).mono ?_
  rintro e w' ⟨b, cs, xs, ty, lh, rfl, hR, hns, hb, hcell, hlh, hrel, hkeep, hwd, ho⟩
  have hmono : ∀ x, (x ≠ b ∧ (x < w.heap.size → okB w0 ok0 L β x)) → okB w0 ok0 ((d, .str cs) :: kL [d] [] L) (fun j => if j = d then some b else β j) x := fun x hx => by
    refine ⟨?_, fun hlt => (hx.2 (Nat.lt_of_lt_of_le hlt hs.wd)).2 hlt⟩
    rintro ⟨i, o', h1, h2⟩
    by_cases hi : i = d
    · subst hi; simp at h2; exact hx.1 h2.symm
    · have hdi : ¬ d = i := fun e => hi e.symm
      have h1 : look (kL [d] [] L) i = some o' := by simpa [look, hdi] using h1
      obtain ⟨j, o2, h3, _, h5⟩ := ownB_kL (β := β) (β' := β) (fun _ _ => rfl) ⟨i, o', h1, by simpa [hi] using h2⟩
      have hown : ownB L β x := ⟨j, o2, h3, h5⟩
      obtain ⟨c1, t1, _, hc1, _⟩ := hs.own_there hown
      exact (hx.2 (lt_of_heap hc1)).1 hown
  obtain ⟨h1, h2⟩ := hs.place (g := some b) (x := .c (.p d 0)) (v := .pointer (some ⟨b, 0, none⟩)) (is := []) (ob := .str cs) hwd ho (fun x hx _ => hkeep x hx)
    (fun x e => by injection e with e; subst e; exact ⟨.inl hb, xs, ty, lh, hcell, fun cs' ty' lh hc => absurd (lt_of_heap hc) (by omega)⟩) hf
    (fun _ _ => ⟨b, xs, ty, lh, by simp, hcell, hlh, SelfOk.none (noSelf_spec hns), (hrel _).okmono hmono⟩) ⟨b, by simp, rfl⟩ hdn
  show Ka (a.put o.dst (.pointer (some ⟨b, 0, none⟩))) w'
  rw [hod]
  exact hK _ _ _ _ _ _ h1 (by rw [hod]; exact keep_place a d _ hf _) h2 (fun _ => ⟨hwd, hkeep⟩) (hk cs hR)
theorem call1_sound {q : Bool} {o : Oper} {g : FuncId} {sargs : List S} {va : List Value} (hn : n ≤ 9000) (hs : Sim P n w0 ok0 own0 β f L p a w) (hargs : RelA P w β (okB w0 ok0 L β) sargs va)
    (hrun : callable P g = true → (execOp a.eval o).run P w = .ok (.enter g va.toArray) w) (h : Call1 q P g sargs n o.dst K f L p)
    (hK : ∀ β' f' L' p' a' w', Sim P n w0 ok0 own0 β' f' L' p' a' w' → Keep o.dst.toList β a β' a' → Tr L β w L' β' w' → (q = true → Stay w w') → K f' L' p' → Ka a' w') : o.wp P a w Ka Q := by
  unfold Call1 at h
  rcases hod : (o.dst : Option Nat) with _ | d
  · simp [hod] at h
  simp only [hod] at h
  obtain ⟨hdn, h⟩ := h
  rcases h with h | ⟨R, hN, hk⟩
  rotate_left
  · exact callN_sound (q := q) hn hs hargs hrun hod hdn hN hk hK
  obtain ⟨args, objs, R, ok, hfam, hq, cont⟩ := h
  obtain ⟨hcl, hfew, hA, hB, honce, hdisj⟩ := ok
  generalize hρ : rho L sargs args objs = ρ at *
  generalize hbs : brw L ρ sargs args objs = bs at *
  have hd := disjB_spec hdisj
  have hbs1 : ∀ i ∈ brwA sargs (expA 9500 args), i ∈ bs := fun i hi => by rw [← hbs]; exact List.mem_append_left _ hi
  have hbs2 : ∀ i ∈ brwB L ρ (lent args objs), i ∈ bs := fun i hi => by rw [← hbs]; exact List.mem_append_right _ hi
  have hpre := leA_rel hs hB hd hbs1 hA hargs
  have hobj := lent_objs hs hB honce hd hbs2
  have hlentB : ∀ b, ownB (lent args objs) (bc ρ β) b → ownB L β b := fun b ho => by
    obtain ⟨j, i, o1, o2, _, _, h3, _, h4⟩ := ownB_lent hB ho; exact ⟨i, o2, h3, h4⟩
  have hc := hcl.2 w (bc ρ β) (okc w0 ok0 L β bs) va hpre hobj (hs.gl.mono (fun _ _ _ => rfl) fun b h _ => hlentB b h)
  unfold Oper.wp
  rw [hrun hcl.1, Oper.upon_enter]
  refine hc.mono ?_
  rintro e w' ⟨v, r, objs', β', rfl, hR, post⟩
  obtain ⟨htold, hk⟩ := cont r objs' hR post.len
  have hlen := post.len
  have hd9 : @LT.lt Nat _ d 10000 := Nat.lt_of_lt_of_le hdn (Nat.le_trans hn (by decide))
  have hflat := post.flat
  simp only [flat, Bool.and_eq_true, decide_eq_true_eq] at hflat
  obtain ⟨⟨⟨fl1, fl2⟩, fl3⟩, fl4⟩ := hflat
  have hol : objs.length ≤ 50 := by rw [← hlen]; exact fl4
  have hwlt : ∀ b, ownB L β b → b < w.heap.size := fun b ho => by obtain ⟨cs, ty, _, hc, _⟩ := hs.own_there ho; exact lt_of_heap hc
  -- a lent struct's number
  have hstr : ∀ t cs, objs'[t]? = some cs → ∃ i cs', lk ρ (9000 + t) = some i ∧ look L i = some (.str cs') := fun t cs ht => by
    have htl : t < objs.length := by rw [← hlen]; exact (List.getElem?_eq_some_iff.1 ht).1
    have h1 := look_expB_str (k := 0) (List.getElem?_eq_getElem htl) (by omega)
    rw [Nat.zero_add] at h1
    have hnone : look (expAO 9500 args) (9000 + t) = none := look_expAO_none args 9500 _ (by rw [fam_fam (by omega)]; omega) (Nat.le_refl _) (by omega)
    have h2 : look (lent args objs) (9000 + t) = some (.str (expC (9200 + t) objs[t])) := by rw [lent, look_append, hnone]; simpa using h1
    rcases leB_spec hB h2 with ⟨i, o', h3, h4, h5⟩ | ⟨_, _, _, h3⟩
    · cases o' with
      | str cs' => exact ⟨i, cs', h3, h4⟩
      | arr => exact h5.elim
    · cases h3
  -- the new numbers
  let β2 : Nat → Option Nat := fun j => if fam j = d then β' (dec j) else β j
  let L2 : Ob := expO (d + 10000) (cellsS r) ++ (strs ρ d 0 objs' ++ kL [d] (used L ρ) L)
  have hβ : ∀ i, hit [d] (used L ρ) i = false → β2 i = β i := fun i hi => by
    have : ¬ fam i = d := fun e => by simp [hit, inN, e] at hi
    simp [β2, this]
  -- every object that stands behind the call
  have cases2 : ∀ i o, look L2 i = some o →
      (∃ i', i = bm ρ d i' ∧ β2 i = β' i' ∧ ((∃ j ty m ds F, i' = 9700 + 10000 * j ∧ (cellsS r)[j]? = some (.ow ty m ds F) ∧ o = .arr ty m ds F ∧ look (back r objs') i' = some o) ∨
        (∃ t cs j ty m ds F, objs'[t]? = some cs ∧ cs[j]? = some (.ow ty m ds F) ∧ o = .arr ty m ds F ∧ i' = 9200 + t + 10000 * j ∧ look (back r objs') i' = some o) ∨
        (∃ t cs, objs'[t]? = some cs ∧ i' = 9000 + t ∧ o = .str (expC (nk d t) cs) ∧ β2 i = β i ∧ look (back r objs') i' = some (.str (expC (9200 + t) cs))))) ∨
      (∃ o', look L i = some o' ∧ o = kO [d] (used L ρ) o' ∧ hit [d] (used L ρ) i = false ∧ ∀ b, β i = some b → ¬ ownB (lent args objs) (bc ρ β) b) := by
    intro i o hl
    simp only [L2, look_append] at hl
    cases h1 : look (expO (d + 10000) (cellsS r)) i with
    | some o' =>
      simp [h1] at hl; subst hl
      obtain ⟨j, ty, m, ds, F, h2, h3, h4⟩ := look_expO h1
      have hj := (List.getElem?_eq_some_iff.1 h3).1
      refine .inl ⟨9700 + 10000 * j, ?_, ?_, .inl ⟨j, ty, m, ds, F, rfl, h3, h4, by rw [h4]; exact look_back_res h3⟩⟩
      · have e1 : fam (9700 + 10000 * j) = 9700 := by simp only [fam]; omega
        have e2 : (9700 + 10000 * j) / 10000 = j := by omega
        simp only [bm, e1, if_true, e2]; exact h2
      · rw [h2]; simp only [β2]
        rw [if_pos (fam_res hd9), dec_res hd9 (by omega)]
    | none =>
      simp only [h1, Option.none_or] at hl
      cases h2 : look (strs ρ d 0 objs') i with
      | some o' =>
        simp [h2] at hl; subst hl
        rcases look_strs h2 with ⟨t, cs, h3, h4, h5⟩ | ⟨t, cs, j, ty, m, ds, F, h3, h4, h5, h6⟩
        · rw [Nat.zero_add] at h4 h5
          have ht := (List.getElem?_eq_some_iff.1 h3).1
          obtain ⟨i', cs', h6, h7⟩ := hstr t cs h3
          rw [h4] at h6; injection h6 with h6; subst h6
          have hfi := famOk_mem hfam h4 h7
          have e1 : fam (9000 + t) = 9000 + t := fam_fam (by omega)
          have hb2 : β2 i = β i := by simp only [β2]; rw [if_neg hfi]
          refine .inl ⟨9000 + t, ?_, ?_, .inr (.inr ⟨t, cs, h3, rfl, h5, hb2, ?_⟩)⟩
          · simp only [bm, e1]; rw [if_neg (by omega), if_pos (by omega), h4]; rfl
          · rw [hb2, post.fix t (by omega)]; simp [bc, h4]
          · have := look_expB_str (k := 0) h3 (by omega)
            rw [Nat.zero_add] at this
            exact look_back_obj (by omega) this
        · rw [Nat.zero_add] at h5
          have ht := (List.getElem?_eq_some_iff.1 h3).1
          have hj := (List.getElem?_eq_some_iff.1 h4).1
          have hl9 := (flatB_mem fl3 h3).2
          have e1 : fam (9200 + t + 10000 * j) = 9200 + t := by simp only [fam]; omega
          have e2 : (9200 + t + 10000 * j) / 10000 = j := by omega
          refine .inl ⟨9200 + t + 10000 * j, ?_, ?_, .inr (.inl ⟨t, cs, j, ty, m, ds, F, h3, h4, h6, rfl, ?_⟩)⟩
          · have e3 : 9200 + t - 9200 = t := by omega
            simp only [bm, e1, e2]; rw [if_neg (by omega), if_neg (by omega), h5, e3]
          · rw [h5]; simp only [β2]
            rw [if_pos (fam_nest hd9), dec_nest hd9 (by omega)]
          · have := look_expB_arr (k := 0) h3 h4 (by omega)
            rw [Nat.zero_add] at this
            rw [h6]; exact look_back_obj (by omega) this
      | none =>
        simp only [h2, Option.none_or] at hl
        rw [look_kL] at hl
        split at hl
        · cases hl
        rename_i hh
        have hh : hit [d] (used L ρ) i = false := by simpa using hh
        cases hlL : look L i with
        | none => simp [hlL] at hl
        | some o' =>
          simp [hlL] at hl
          refine .inr ⟨o', rfl, hl.symm, hh, fun b hb ho => ?_⟩
          obtain ⟨j, i', oc, o2, h3, h4, h5, h6, h7⟩ := ownB_lent hB ho
          have := hs.inj i i' o' o2 b hlL h5 hb h7
          subst this
          cases o2 with
          | arr ty m ds F => 
            have := used_mem h4 h5
            simp [hit, inN_iff.2 this] at hh
          | str cs2 =>
            cases oc with
            | arr => exact h6.elim
            | str cs3 =>
              rw [lent, look_append] at h3
              cases h8 : look (expAO 9500 args) j with
              | some o3 =>
                simp [h8] at h3
                obtain ⟨_, _, _, _, h9⟩ := look_expAO_arr h8
                rw [h9] at h3; cases h3
              | none =>
                simp [h8] at h3
                rcases look_expB h3 with ⟨t, cs, h9, h10, _⟩ | ⟨t, cs, j', ty, m, ds, F, _, _, _, h9⟩
                · rw [Nat.zero_add] at h10
                  have ht := (List.getElem?_eq_some_iff.1 h9).1
                  exact look_strs_lent (k := 0) (d := d) (by rw [hlen]; exact ht) (by rw [Nat.zero_add, ← h10]; exact h4) h2
                · cases h9
  -- what is own behind the call
  have own2 : ∀ b, ownB L2 β2 b → ownB (back r objs') β' b ∨ (ownB L β b ∧ ¬ ownB (lent args objs) (bc ρ β) b) := by
    rintro b ⟨i, o, h1, h2⟩
    rcases cases2 i o h1 with ⟨i', h3, h4, h5⟩ | ⟨o', h3, h4, h5, h6⟩
    · rw [h4] at h2
      rcases h5 with ⟨_, _, _, _, _, _, _, _, h6⟩ | ⟨_, _, _, _, _, _, _, _, _, _, _, h6⟩ | ⟨_, _, _, _, _, _, h6⟩
      · exact .inl ⟨i', _, h6, h2⟩
      · exact .inl ⟨i', _, h6, h2⟩
      · exact .inl ⟨i', _, h6, h2⟩
    · rw [hβ i h5] at h2
      exact .inr ⟨⟨i, o', h3, h2⟩, h6 b h2⟩
  have hsame : ∀ b, b < w.heap.size → ¬ ownB (lent args objs) (bc ρ β) b → w'.heap[b]? = w.heap[b]? := post.tr.keep
  have not2 : ∀ b, b < w.heap.size → ¬ ownB L β b → ¬ ownB L2 β2 b := fun b hb hn ho => by
    rcases own2 b ho with h1 | ⟨h1, _⟩
    · exact hn (hlentB b (post.tr.own b hb h1))
    · exact hn h1
  have stab : Stab w w' (okB w0 ok0 L β) (okB w0 ok0 L2 β2) :=
    ⟨fun b hv hok => ⟨hsame b (vis_lt hv) fun e => hok.1 (hlentB b e), not2 b (vis_lt hv) hok.1, hok.2⟩, post.tr.cells⟩
  -- footprints come over
  have up : ∀ F : Fp, (∀ Fs, F = some Fs → ∀ G ∈ Fs, G ∈ fps r objs') → (bs = [] ∨ F ≠ none) → Up w' (okR w (okc w0 ok0 L β bs) (lent args objs) (bc ρ β) (back r objs') β') (okB w0 ok0 L2 β2) F := by
    intro F hF hT G hG1 hG2 b hb
    obtain ⟨q1, q2⟩ := hG1 b hb
    have q3 : b < w.heap.size → okB w0 ok0 L β b ∨ ownB (lent args objs) (bc ρ β) b := fun hbw => by
      rcases q2 hbw with (hk | ⟨i, hi, _, hbi⟩) | hk
      · exact .inl hk
      · rcases hT with hT | hT
        · rw [hT] at hi; cases hi
        · cases F with
          | none => exact absurd rfl hT
          | some Fs =>
            have h1 := hG2 Fs rfl b
            have h2 : 0 < G.count b := List.count_pos_iff.2 hb
            have h3 : b ∈ Fs.flatten := List.count_pos_iff.1 (by omega)
            obtain ⟨G', h4, h5⟩ := List.mem_flatten.1 h3
            have h6 : b ∈ (fps r objs').flatten := List.mem_flatten.2 ⟨G', hF Fs rfl G' h4, h5⟩
            rcases (post.fresh.2 b h6).1 with h7 | h7
            · omega
            · exact .inr h7
      · exact .inr hk
    refine ⟨fun ho => ?_, fun hlt => ?_⟩
    · rcases own2 b ho with h1 | ⟨h1, h2⟩
      · exact q1 h1
      · rcases q3 (hwlt b h1) with h3 | h3
        · exact h3.1 h1
        · exact h2 h3
    · rcases q3 (Nat.lt_of_lt_of_le hlt hs.wd) with h3 | h3
      · exact h3.2 hlt
      · exact hs.sub.1 b (hs.old b (hlentB b h3) hlt)
  have upR : ∀ x ∈ cellsS r, ∀ F : Fp, (toldC x = true → F ≠ none) → (∀ Fs, F = some Fs → fpC x = Fs) → Up w' (okR w (okc w0 ok0 L β bs) (lent args objs) (bc ρ β) (back r objs') β') (okB w0 ok0 L2 β2) F := fun x hx F h1 h2 =>
    up F (fun Fs e G hG => List.mem_append_left _ (fpL_mem hx G (by rw [h2 Fs e]; exact hG))) (htold.imp id fun h => by
      simp only [Bool.and_eq_true] at h
      exact h1 (toldL_mem h.1 hx))
  have upB : ∀ t cs, objs'[t]? = some cs → ∀ x ∈ cs, ∀ F : Fp, (toldC x = true → F ≠ none) → (∀ Fs, F = some Fs → fpC x = Fs) → Up w' (okR w (okc w0 ok0 L β bs) (lent args objs) (bc ρ β) (back r objs') β') (okB w0 ok0 L2 β2) F := fun t cs ht x hx F h1 h2 =>
    up F (fun Fs e G hG => List.mem_append_right _ (fpB_mem ht hx G (by rw [h2 Fs e]; exact hG))) (htold.imp id fun h => by
      simp only [Bool.and_eq_true] at h
      exact h1 (toldL_mem (toldB_mem h.2 ht) hx))
  have tsl : ∀ m ds F, toldC (.sl m ds F) = true → F ≠ none := fun m ds F h e => by subst e; simp [toldC] at h
  have tow : ∀ ty m ds F, toldC (.ow ty m ds F) = true → F ≠ none := fun ty m ds F h e => by subst e; simp [toldC] at h
  have fsl : ∀ m ds (F : Fp) Fs, F = some Fs → fpC (.sl m ds F) = Fs := fun m ds F Fs e => by subst e; rfl
  have fow : ∀ ty m ds (F : Fp) Fs, F = some Fs → fpC (.ow ty m ds F) = Fs := fun ty m ds F Fs e => by subst e; rfl
  have hr2 : RelS P w' β2 (okB w0 ok0 L2 β2) (expS (d + 10000) r) v :=
    expS_rel fl1 (fun j hj => by simp only [β2]; rw [if_pos (fam_res hd9), dec_res hd9 (by omega)]) (fun m ds F hm => upR _ hm F (tsl m ds F) (fsl m ds F)) post.rel
  have hsim : Sim P n w0 ok0 own0 β2 (upd (kR [d] (used L ρ) f) d (expS (d + 10000) r)) L2 (addP p (fps r objs')) (a.put (some d) v) w' := by
    refine ⟨by rw [Go.Vc.Act.size_put]; exact hs.size, by rw [Go.Vc.Act.defers_put]; exact hs.defers, fun i => ?_, fun i o hl => ?_, fun i j o o' b hi hj hbi hbj => ?_, fun b ho hlt => ?_, hs.sub, fun b hb hnb => ?_, hs.wd.trans post.wd,
      ⟨post.outer.1.trans hs.outer.1, post.outer.2.1.trans hs.outer.2.1, post.outer.2.2.trans hs.outer.2.2⟩, fun ps hps => ?_⟩
    · rw [Go.Vc.getD_put hs.size]
      simp only [upd]
      by_cases hi : i = d
      · subst hi; simp only [hdn, and_true, if_true]; exact hr2
      · simp only [hi, false_and, if_false, kR]; exact (hs.slots i).tr hβ stab
    · rcases cases2 i o hl with ⟨i', h3, h4, h5⟩ | ⟨o', h3, h4, h5, h6⟩
      · rcases h5 with ⟨j, ty, m, ds, F, e1, h7, e2, h6⟩ | ⟨t, cs, j, ty, m, ds, F, h7, h8, e2, e1, h6⟩ | ⟨t, cs, h7, e1, e2, h8, h6⟩
        · have := post.obs.rel i' o h6
          rw [e2] at this ⊢
          exact arr_rel h4 (upR _ (List.mem_of_getElem? h7) F (tow ty m ds F) (fow ty m ds F)) this
        · have := post.obs.rel i' o h6
          rw [e2] at this ⊢
          exact arr_rel h4 (upB t cs h7 _ (List.mem_of_getElem? h8) F (tow ty m ds F) (fow ty m ds F)) this
        · have := post.obs.rel i' _ h6
          rw [e2]
          obtain ⟨b, vs, ty, lh, q1, q2, hlh, hsf, q3⟩ := this
          have hfl := flatB_mem fl3 h7
          have ht := (List.getElem?_eq_some_iff.1 h7).1
          exact ⟨b, vs, ty, lh, h4.trans q1, q2, hlh, hsf.expC, expC_rel hfl.1 (fun j hj => by simp only [β2]; rw [if_pos (fam_nest hd9), dec_nest hd9 (by omega)]) (fun m ds F hm => upB t cs h7 _ hm F (tsl m ds F) (fsl m ds F)) q3⟩
      · rw [h4]
        refine (hs.objs i o' h3).tr hβ stab h5 fun b hb => hsame b (hwlt b ⟨i, o', h3, hb⟩) (h6 b hb)
    · rcases cases2 i o hi with ⟨i', h3, h4, h5⟩ | ⟨o1, h3, h4, h5, h6⟩
      · have l1 : ∃ o1, look (back r objs') i' = some o1 := by
          rcases h5 with ⟨_, _, _, _, _, _, _, _, h6⟩ | ⟨_, _, _, _, _, _, _, _, _, _, _, h6⟩ | ⟨_, _, _, _, _, _, h6⟩ <;> exact ⟨_, h6⟩
        obtain ⟨o1, l1⟩ := l1
        rcases cases2 j o' hj with ⟨j', k3, k4, k5⟩ | ⟨o2, k3, k4, k5, k6⟩
        · have l2 : ∃ o1, look (back r objs') j' = some o1 := by
            rcases k5 with ⟨_, _, _, _, _, _, _, _, h6⟩ | ⟨_, _, _, _, _, _, _, _, _, _, _, h6⟩ | ⟨_, _, _, _, _, _, h6⟩ <;> exact ⟨_, h6⟩
          obtain ⟨o2, l2⟩ := l2
          have := post.obs.inj i' j' o1 o2 b l1 l2 (by rw [← h4]; exact hbi) (by rw [← k4]; exact hbj)
          rw [h3, k3, this]
        · rw [hβ j k5] at hbj
          have hb := hwlt b ⟨j, o2, k3, hbj⟩
          exact absurd (post.tr.own b hb ⟨i', o1, l1, by rw [← h4]; exact hbi⟩) (k6 b hbj)
      · rw [hβ i h5] at hbi
        rcases cases2 j o' hj with ⟨j', k3, k4, k5⟩ | ⟨o2, k3, k4, k5, k6⟩
        · have l2 : ∃ o1, look (back r objs') j' = some o1 := by
            rcases k5 with ⟨_, _, _, _, _, _, _, _, h6⟩ | ⟨_, _, _, _, _, _, _, _, _, _, _, h6⟩ | ⟨_, _, _, _, _, _, h6⟩ <;> exact ⟨_, h6⟩
          obtain ⟨o2, l2⟩ := l2
          have hb := hwlt b ⟨i, o1, h3, hbi⟩
          exact absurd (post.tr.own b hb ⟨j', o2, l2, by rw [← k4]; exact hbj⟩) (h6 b hbi)
        · rw [hβ j k5] at hbj
          exact hs.inj i j o1 o2 b h3 k3 hbi hbj
    · rcases own2 b ho with h1 | ⟨h1, _⟩
      · exact hs.old b (hlentB b (post.tr.own b (Nat.lt_of_lt_of_le hlt hs.wd) h1)) hlt
      · exact hs.old b h1 hlt
    · exact (hsame b (Nat.lt_of_lt_of_le hb hs.wd) fun e => hnb (hs.old b (hlentB b e) hb)).trans (hs.frame b hb hnb)
    · cases p with
      | none => simp [addP] at hps
      | some ps0 =>
        simp only [addP, Option.some.injEq] at hps
        subst hps
        obtain ⟨h1, h2⟩ := hs.pool ps0 rfl
        obtain ⟨h3, h4⟩ := post.fresh
        rw [List.flatten_append]
        refine ⟨List.nodup_append.2 ⟨h1, h3, fun x hx y hy e => ?_⟩, fun b hb => ?_⟩
        · subst e
          obtain ⟨_, ⟨cs, t, lh, h6, _⟩, h7⟩ := h2 x hx
          rcases (h4 x hy).1 with h8 | h8
          · have := lt_of_heap h6; omega
          · exact h7 (hlentB x h8)
        · rcases List.mem_append.1 hb with hb | hb
          · obtain ⟨h5, ⟨cs, t, lh, h6, hlh⟩, h7⟩ := h2 b hb
            have hbw := lt_of_heap h6
            exact ⟨h5, ⟨cs, t, lh, (hsame b hbw fun e => h7 (hlentB b e)).trans h6, hlh⟩, not2 b hbw h7⟩
          · obtain ⟨h5, h6, h7⟩ := h4 b hb
            refine ⟨?_, h6, fun ho => ?_⟩
            · rcases h5 with h5 | h5
              · exact .inl (Nat.le_trans hs.wd h5)
              · by_cases hlt : b < w0.heap.size
                · exact .inr (hs.old b (hlentB b h5) hlt)
                · exact .inl (by omega)
            · rcases own2 b ho with h8 | ⟨h8, h9⟩
              · exact h7 h8
              · rcases h5 with h5 | h5
                · have := hwlt b h8; omega
                · exact h9 h5
  show Ka (a.put o.dst v) w'
  rw [hod]
  refine hK β2 _ L2 _ _ w' hsim ?_ ⟨post.wd, fun b hb hn => hsame b hb fun e => hn (hlentB b e), fun b hb ho => ?_, post.tr.cells⟩ (fun e => ⟨post.wd, fun b hb => hsame b hb fun ho => ?_⟩) hk
  · rw [hod]
    exact ⟨fun j hj => by
      have : ¬ fam j = d := fun e => hj (by simp [e])
      simp [β2, this], fun j hj => by rw [Go.Vc.getD_put rfl, if_neg (fun e => hj (by simp [e.1]))]⟩
  · rcases own2 b ho with h1 | ⟨h1, _⟩
    · exact hlentB b (post.tr.own b hb h1)
    · exact h1
  · rw [hq e] at ho
    obtain ⟨i, o, h1, _⟩ := ho
    simp [look] at h1
theorem fSs_rel {ok ok' : Nat → Prop} (h : ∀ b, ok b → ok' b) {i m : Nat} {x : C} (hx : ∀ y, OwnS P w (β i) m y → RelC P w β ok' x y) : ∀ {ss : List S} {vs : List Value}, RelA P w β ok ss vs → RelA P w β ok' (fSs i m x ss) vs
  | [], [], _ => trivial
  | _ :: _, _ :: _, hr => ⟨fS_rel h hx hr.1, fSs_rel h hx hr.2⟩
  | [], _ :: _, hr => hr.elim
  | _ :: _, [], hr => hr.elim
theorem frzL_sound {k : List S → K0} : ∀ (is : List Nat) {ss : List S} {f : Rg} {L : Ob} {p : Po} {vs : List Value}, Sim P n w0 ok0 own0 β f L p a w → RelA P w β (okB w0 ok0 L β) ss vs → frzL is ss k f L p →
    ∃ ss' f' L' p', k ss' f' L' p' ∧ Sim P n w0 ok0 own0 β f' L' p' a w ∧ Tr L β w L' β w ∧ RelA P w β (okB w0 ok0 L' β) ss' vs
  | [], ss, f, L, p, vs, hs, hr, h => ⟨ss, f, L, p, h, hs, Tr.refl _ _ _, hr⟩
  | i :: is, ss, f, L, p, vs, hs, hr, h => by
    simp only [frzL] at h
    obtain ⟨m, x, f', L', p', hk, hs', ht, hm, hx⟩ := frz_sound hs h
    obtain ⟨ss', f'', L'', p'', hk', hs'', ht', hr'⟩ := frzL_sound is hs' (fSs_rel hm hx hr) hk
    exact ⟨ss', f'', L'', p'', hk', hs'', ht.trans ht', hr'⟩
theorem call_sound {q : Bool} {o : Oper} {g : FuncId} {sargs : List S} {va : List Value} (hn : n ≤ 9000) (hs : Sim P n w0 ok0 own0 β f L p a w) (hargs : RelA P w β (okB w0 ok0 L β) sargs va)
    (hrun : callable P g = true → (execOp a.eval o).run P w = .ok (.enter g va.toArray) w) (h : CallQ q P g sargs n o.dst K f L p)
    (hK : ∀ β' f' L' p' a' w', Sim P n w0 ok0 own0 β' f' L' p' a' w' → Keep o.dst.toList β a β' a' → Tr L β w L' β' w' → (q = true → Stay w w') → K f' L' p' → Ka a' w') : o.wp P a w Ka Q := by
  obtain ⟨is, h⟩ := h
  obtain ⟨ss', f', L', p', h', hs', ht, hr'⟩ := frzL_sound is hs hargs h
  exact call1_sound (q := q) hn hs' hr' hrun h' fun β2 f2 L2 p2 a2 w2 h1 h2 h3 h4 h5 => hK β2 f2 L2 p2 a2 w2 h1 h2 (ht.trans h3) h4 h5
end
end Go.Dv

namespace Go.Dv
open Go Go.RowKit
open Go.Vc (vis vis_of_cell CellF RowF ValsF D inN okV callable wp_value Stay Sw lodO guardSlot arr1 arr2 map1 map2 callFunc_run)

section
variable {P : Program} {n : Nat} {w0 : World} {ok0 own0 : Nat → Prop} {β : Nat → Option Nat} {f : Rg} {L : Ob} {p : Po} {a : Act} {w : World}
  {K : K0} {Ka : Act → World → Prop} {Q : Exit → Act → World → Prop}

/-- Operations that may change what stood. -/
def eff (q : Bool) (o : Oper) : Bool :=
  match o.op with
  | .store .. => true
  | .call c => (match c.callee with | .builtin .append => true | .value _ => !q | _ => false)
  | _ => false
abbrev AbsE (P : Program) (n : Nat) (w0 : World) (ok0 own0 : Nat → Prop) (β : Nat → Option Nat) (L : Ob) (a : Act) (w : World) (ds : List Nat) (e : Bool) (K : K0) (Ka : Act → World → Prop) : Prop :=
  ∀ β' f' L' p' a' w', Sim P n w0 ok0 own0 β' f' L' p' a' w' → Keep ds β a β' a' → Tr L β w L' β' w' → (e = false → Stay w w') → K f' L' p' → Ka a' w'

theorem RelA.append {ok : Nat → Prop} : ∀ {xs ys : List S} {vs us : List Value}, RelA P w β ok xs vs → RelA P w β ok ys us → RelA P w β ok (xs ++ ys) (vs ++ us)
  | [], _, [], _, _, h => h
  | _ :: _, _, _ :: _, _, h, k => ⟨h.1, RelA.append h.2 k⟩
  | [], _, _ :: _, _, h, _ => h.elim
  | _ :: _, _, [], _, h, _ => h.elim
theorem RelA.ptrs {ok : Nat → Prop} : ∀ {is : List Nat} {vs : List Value}, Ptrs β is vs → RelA P w β ok (is.map fun i => .c (.p i 0)) vs
  | [], [], _ => trivial
  | _ :: _, _ :: _, h => ⟨h.1, RelA.ptrs h.2⟩
  | [], _ :: _, h => h.elim
  | _ :: _, [], h => h.elim
theorem RelA.evs (hs : Sim P n w0 ok0 own0 β f L p a w) : ∀ {xs : List Operand}, xs.all okOpd = true → RelA P w β (okB w0 ok0 L β) (xs.map (ev f)) (xs.map a.eval)
  | [], _ => trivial
  | x :: r, h => by
    simp only [List.all_cons, Bool.and_eq_true] at h
    exact ⟨ev_rel hs h.1, RelA.evs hs h.2⟩

theorem dOp_sound {q : Bool} {o : Oper} (hn : n ≤ 9000) (hok : okOper o = true) (hs : Sim P n w0 ok0 own0 β f L p a w) (h : dOp (CallQ q P) P n o K f L p)
    (hK : AbsE P n w0 ok0 own0 β L a w o.dst.toList (eff q o) K Ka) : o.wp P a w Ka Q := by
  have hKS : AbsS P n w0 ok0 own0 β L a w o.dst.toList K Ka := fun β' f' L' p' a' w' h1 h2 h3 h4 h5 => hK β' f' L' p' a' w' h1 h2 h3 (fun _ => h4) h5
  have hn' : n ≤ 10000 := by omega
  by_cases ht : takeO o = true
  · obtain ⟨x, v, hr, hv, hk⟩ := take_yv hok hs h ht
    exact wp_value (hr w fun _ => Stay.refl w) (hK _ _ _ _ _ _ (hs.put o.dst hv) (keep_put a o.dst v) (Tr.refl _ _ _) (fun _ => Stay.refl w) hk)
  · cases ho : o.op <;> simp only [takeO, ho, not_true_eq_false] at ht
    case alloc t => exact alloc_step ho hn' hs h hKS
    case box t x => exact box_step ho hok hn' hs h hKS
    case buildSlice T len ps => exact buildSlice_step ho hok hn' hs h hKS
    case makeSlice T l c => exact makeSlice_step ho hok hn' hs h hKS
    case store t x y =>
      refine store_step ho hok hs h fun β' f' L' p' a' w' h1 h2 h3 h4 => hK β' f' L' p' a' w' h1 h2 h3 (fun e => ?_) h4
      simp [eff, ho] at e
    case call c =>
      have hok' := hok
      simp only [okOper, Op.operands, ho] at hok'
      simp only [dOp, ho] at h
      split at h
      · rename_i g hg
        split at h
        case h_2 => exact h.elim
        rename_i gid fs cs hev
        have hgo : okOpd g = true ∧ c.args.toList.all okOpd = true := by
          simp only [Call.operands, hg] at hok'
          simpa using hok'
        have hgr := ev_rel hs hgo.1
        rw [hev] at hgr
        obtain ⟨va, vb, hge, hpa, hpb⟩ := hgr
        have hargs := (RelA.ptrs (P := P) (w := w) (ok := okB w0 ok0 L β) hpa).append ((RelA.evs hs hgo.2).append (RelA.ptrs hpb))
        rw [← List.append_assoc] at hargs
        refine call_sound hn hs hargs (fun hc => ?_) h fun β' f' L' p' a' w' h1 h2 h3 h4 h5 => hK β' f' L' p' a' w' h1 h2 h3 (fun e => h4 ?_) h5
        · have he : va.toArray ++ c.args.map a.eval ++ vb.toArray = (va ++ (c.args.toList.map a.eval ++ vb)).toArray := by
            rw [← Array.toList_map]; simp
          rw [← he]
          simp [execOp, ho, resolve, hg, hge, Deferred.ofValue, invoke, callFunc_run hc]
        · simpa [eff, ho, hg] using e
      · rename_i hg; simp [hg] at ht
      · rename_i hg; simp [hg] at ht
      · rename_i hg; simp [hg] at ht
      · rename_i hg
        split at h
        case h_2 => exact h.elim
        rename_i sv tv T U hargs hTU
        obtain ⟨hTU', hzo, h⟩ := h
        have hdU : ∃ dU, P.underlying U = some dU ∧ ∀ k, dU ≠ .int k := by
          rcases hTU' with rfl | hl
          · unfold dAppend at h
            split at h
            · exact h.elim
            · rename_i e sz by' hel
              exact ⟨_, (Go.Vc.elemS_spec hel).1, fun k e => by cases e⟩
          · unfold Go.Vc.lenK at hl
            split at hl
            · cases hl
            · rename_i hu; exact ⟨_, hu, fun k e => by cases e⟩
            · cases hl
        obtain ⟨dU, hU, hUd⟩ := hdU
        obtain ⟨x, y, hxy, rfl, rfl⟩ := map2 hargs
        have ha := arr2 hxy
        have hT := arr2 hTU
        have hc : c = { callee := .builtin .append, args := #[x, y], argTypes := #[T, U] } := by
          obtain ⟨c1, c2, c3⟩ := c
          simp only at hg ha hT; subst hg ha hT; rfl
        simp only [Call.operands, hg, ha] at hok'
        have hxo : okOpd x = true ∧ okOpd y = true := by simpa using hok'
        rw [hc] at ho
        refine append_step ho hU hUd hxo.1 hxo.2 hn' hs (fun e sz by' he => ?_) h fun β' f' L' p' a' w' h1 h2 h3 h4 => hK β' f' L' p' a' w' h1 h2 h3 (fun e => by simp [eff, ho] at e) h4
        unfold Go.Vc.zeroOk at hzo
        rw [he] at hzo
        exact Option.isSome_iff_exists.1 hzo
      · exact h.elim
    all_goals (first | (simp only [dOp, ho] at h; done) | (simp only [dOp, ho] at h; exact h.elim) | (exact absurd h (by simp [dOp, ho])))

/-- So, where an own slice that is cut is handed over as data first. -/
def bytesTo (P : Program) (t : TypeId) : Option TypeId :=
  match P.underlying t with
  | some (.slice e) => (match P.underlying e, P.info? e with
    | some (.int .u8), some i => if i.size = 1 then some e else none
    | _, _ => none)
  | _ => none
theorem bytesTo_spec {t e : TypeId} (h : bytesTo P t = some e) : P.underlying t = some (.slice e) ∧ P.underlying e = some (.int .u8) ∧ ∃ i, P.info? e = some i ∧ i.size = 1 := by
  unfold bytesTo at h
  split at h
  · rename_i e' hu
    split at h
    · rename_i i h1 h2
      split at h
      · rename_i h3; injection h with h; subst h; exact ⟨hu, h1, i, h2, h3⟩
      · cases h
    · cases h
  · cases h
theorem bytes_step {o : Oper} {s t e : TypeId} {x : Operand} {u : ByteArray} (ho : o.op = .convert s t x) (hok : okOper o = true) (hn : n ≤ 10000) (hs : Sim P n w0 ok0 own0 β f L p a w) (hb : bytesTo P t = some e) (hx : ev f x = .c (.v (.string u)))
    (hl : Go.Vc.lenK P s = 2) (h : create n o.dst [] (.arr e u.size (bytesD u.data.toList) (tell p (some []))) (fun d => .s d u.size) K f L p) (hK : AbsS P n w0 ok0 own0 β L a w o.dst.toList K Ka) : o.wp P a w Ka Q := by
  obtain ⟨h1, h2, i, h3, h4⟩ := bytesTo_spec hb
  have hxr := ev_rel hs (x := x) (by simpa [okOper, Op.operands, ho] using hok)
  rw [hx] at hxr
  obtain ⟨hxe, hu⟩ := hxr
  have hu : u.size ≤ maxLen := hu
  have hsu : P.underlying s = some .string := by
    unfold Go.Vc.lenK at hl
    split at hl
    · cases hl
    · assumption
    · cases hl
  have hr : (execOp a.eval o).run P w = .ok (.value (.slice (some ⟨w.heap.size, 0, none⟩) u.size (grownCap w u.size 0 e))) (Lib.bytesWorld w e u) := by
    have := Lib.run_convert_string_bytes (P := P) w s t e u hsu h1 h2
    simp [execOp, ho, hxe, this]
  have hnew := Lib.bytesWorld_at_new w e u
  have hcap := grownCap_ge w u.size 0 e
  have hsz : (Lib.bytesCells w e u).size = grownCap w u.size 0 e := by
    have : u.data.size = u.size := rfl
    simp [Lib.bytesCells, this]; omega
  refine create_soundG (mk := fun d => .s d u.size) hn hs hr (by rw [Lib.bytesWorld_size]; omega) (fun b hb => Lib.bytesWorld_at_old w e u b hb) hnew ?_ (fun d _ hβ hst => ?_) (fun d _ ok' => ?_) h hK
  · refine ⟨?_, ?_, ?_⟩ <;> simp [Lib.bytesWorld, World.freeze, World.alloc, World.drew, -World.alloc_eq, -World.drew_eq]
  · refine arr_new (sz := 1) (F := tell p (some [])) (hd := Lib.strCells u) (G := []) (junk := List.replicate (grownCap w u.size 0 e - u.size) (.int .u8 0)) h3 h4 hst (bytesD_vals w u) (by simp) (fun Fs e => Sb.nil _) (by simp) hnew (Lh.of_le (Nat.le_refl _)) (by simp [Lib.bytesCells, Lib.strCells]) ?_
    simp [bytesD]
  · show OwnS P _ (if d = d then some w.heap.size else β d) u.size _
    rw [if_pos rfl]
    refine ⟨grownCap w u.size 0 e, _, e, _, rfl, hcap, grownCap_le_maxLen w u.size 0 e hu, hnew, fun s hss => ?_⟩
    simp only [h3, Option.map_some, Option.some.injEq] at hss
    rw [hsz, ← hss, h4]; omega
def dOpF (CT : CallT) (P : Program) (n : Nat) (o : Oper) (K : K0) : K0 := fun f L p =>
  match o.op with
  | .slice _ x _ _ _ => (match slOf (ev f x) with
    | some i => frz i (fun _ _ => dOp CT P n o K) f L p
    | none => dOp CT P n o K f L p)
  | .convert s t x => (match bytesTo P t, ev f x with
    | some e, .c (.v (.string u)) => Go.Vc.lenK P s = 2 ∧ create n o.dst [] (.arr e u.size (bytesD u.data.toList) (tell p (some []))) (fun d => .s d u.size) K f L p
    | _, _ => dOp CT P n o K f L p)
  | _ => dOp CT P n o K f L p
theorem dOpF_sound {q : Bool} {o : Oper} (hn : n ≤ 9000) (hok : okOper o = true) (hs : Sim P n w0 ok0 own0 β f L p a w) (h : dOpF (CallQ q P) P n o K f L p)
    (hK : AbsE P n w0 ok0 own0 β L a w o.dst.toList (eff q o) K Ka) : o.wp P a w Ka Q := by
  unfold dOpF at h
  split at h
  · split at h
    · obtain ⟨m, x, f', L', p', hk, hs', ht, _⟩ := frz_sound hs h
      exact dOp_sound hn hok hs' hk fun β' f' L' p' a' w' h1 h2 h3 h4 h5 => hK β' f' L' p' a' w' h1 h2 (ht.trans h3) h4 h5
    · exact dOp_sound hn hok hs h hK
  · rename_i ho
    split at h
    · rename_i hb hx
      refine bytes_step ho hok (by omega) hs hb hx h.1 h.2 fun β' f' L' p' a' w' h1 h2 h3 h4 h5 => hK β' f' L' p' a' w' h1 h2 h3 (fun _ => h4) h5
    · exact dOp_sound hn hok hs h hK
  · exact dOp_sound hn hok hs h hK

/-! ### A list of operations -/
def dl (P : Program) (n : Nat) (ops : Array Oper) (K : K0) : List Oper → K0
  | [] => K
  | o :: r => fun f L p =>
    match o.guard with
    | none => dOpF (CallK P) P n o (dl P n ops K r) f L p
    | some (j, want) => match guardSlot ops j with
      | none => False
      | some g => match f g with
        | .c (.v (.bool b)) => (b = want → dOpF (CallK P) P n o (dl P n ops K r) (upd f g (.c (.v (.bool want)))) L p) ∧
            (b = (!want) → dl P n ops K r (put n (upd f g (.c (.v (.bool !want)))) o.dst (.tu [])) L p)
        | .tu [] => dl P n ops K r (put n f o.dst (.tu [])) L p
        | _ => False

def dGuard (n : Nat) (ops : Array Oper) (o : Oper) (step : K0 → K0) (K : K0) : K0 := fun f L p =>
  match o.guard with
  | none => step K f L p
  | some (j, want) => match guardSlot ops j with
    | none => False
    | some g => match f g with
      | .c (.v (.bool b)) => (b = want → step K (upd f g (.c (.v (.bool want)))) L p) ∧
          (b = (!want) → K (put n (upd f g (.c (.v (.bool !want)))) o.dst (.tu [])) L p)
      | .tu [] => K (put n f o.dst (.tu [])) L p
      | _ => False
theorem dl_cons {P : Program} {n : Nat} {ops : Array Oper} {K : K0} {o : Oper} {r : List Oper} {f : Rg} {L : Ob} {p : Po} : dl P n ops K (o :: r) f L p = dGuard n ops o (dOpF (CallK P) P n o) (dl P n ops K r) f L p := rfl

theorem Sim.refine_slot (h : Sim P n w0 ok0 own0 β f L p a w) {g : Nat} {x : S} (hx : RelS P w β (okB w0 ok0 L β) x (a.tmps.getD g undef)) : Sim P n w0 ok0 own0 β (upd f g x) L p a w :=
  ⟨h.size, h.defers, fun i => by simp only [upd]; split <;> first | (rename_i e; subst e; exact hx) | exact h.slots i, h.objs, h.inj, h.old, h.sub, h.frame, h.wd, h.outer, h.pool⟩

variable {ops : Array Oper}
theorem dGuard_sound {o : Oper} {step : K0 → K0} (hs : Sim P n w0 ok0 own0 β f L p a w) (h : dGuard n ops o step K f L p) :
    (Region.wanted o (yielded ops a.tmps) = true ∧ ∃ f1, Sim P n w0 ok0 own0 β f1 L p a w ∧ step K f1 L p) ∨
    (Region.wanted o (yielded ops a.tmps) = false ∧ ∃ f1, Sim P n w0 ok0 own0 β f1 L p a w ∧ K (put n f1 o.dst (.tu [])) L p) := by
  unfold dGuard at h
  split at h
  · rename_i hg
    exact .inl ⟨by simp [Region.wanted, hg], f, hs, h⟩
  · rename_i j want hg
    split at h
    · exact h.elim
    · rename_i g hgs
      have hslot := hs.slots g
      have hyl : ∀ b, a.tmps.getD g undef = .bool b → yielded ops a.tmps j = some b := fun b hb => by
        unfold guardSlot at hgs
        simp only [yielded, hgs, Option.bind_some]
        have : a.tmps[g]? = some (.bool b) := by
          rw [Array.getD_eq_getD_getElem?] at hb
          cases hq : a.tmps[g]? with
          | none => simp [hq, undef] at hb
          | some q => simp [hq] at hb; rw [hb]
        rw [this]
      split at h
      · rename_i b hb
        rw [hb] at hslot
        obtain ⟨hslot, _⟩ := hslot
        have hy := hyl b hslot
        by_cases hbw : b = want
        · subst hbw
          exact .inl ⟨by simp [Region.wanted, hg, hy], _, hs.refine_slot (x := .c (.v (.bool b))) ⟨hslot, trivial⟩, h.1 rfl⟩
        · have hbn : b = !want := by cases b <;> cases want <;> simp_all
          subst hbn
          exact .inr ⟨by simp [Region.wanted, hg, hy], _, hs.refine_slot (x := .c (.v (.bool !want))) ⟨hslot, trivial⟩, h.2 rfl⟩
      · rename_i hb
        rw [hb] at hslot
        obtain ⟨ys, hslot, _⟩ := hslot
        have hy : yielded ops a.tmps j = none := by
          unfold guardSlot at hgs
          simp only [yielded, hgs, Option.bind_some]
          rw [Array.getD_eq_getD_getElem?] at hslot
          cases hq : a.tmps[g]? with
          | none => rfl
          | some q => simp [hq] at hslot; subst hslot; rfl
        exact .inr ⟨by simp [Region.wanted, hg, hy], f, hs, h⟩
      · exact h.elim
theorem undef_rel {ok : Nat → Prop} : RelS P w β ok (.tu []) undef := ⟨[], rfl, trivial⟩

def okOps (l : List Oper) : Bool := l.all okOper
theorem dl_sound (hn : n ≤ 9000) : ∀ (l : List Oper) {β : Nat → Option Nat} {f : Rg} {L : Ob} {p : Po} {a : Act} {w : World}, okOps l = true → Sim P n w0 ok0 own0 β f L p a w → dl P n ops K l f L p →
    Abs P n w0 ok0 own0 β L a w (Go.Vc.dstsOps l) K (Q .normal) → wpList P ops Q l a w
  | [], β, f, L, p, a, w, _, hs, h, hK => hK _ _ _ _ _ _ hs (Keep.refl _ _ _) (Tr.refl _ _ _) h
  | o :: r, β, f, L, p, a, w, hok, hs, h, hK => by
    simp only [okOps, List.all_cons, Bool.and_eq_true] at hok
    rw [dl_cons] at h
    have step : ∀ {β' f' L' p' a' w'}, Sim P n w0 ok0 own0 β' f' L' p' a' w' → Keep o.dst.toList β a β' a' → Tr L β w L' β' w' → dl P n ops K r f' L' p' → wpList P ops Q r a' w' := fun hs' hk ht h' =>
      dl_sound hn r hok.2 hs' h' fun _ _ _ _ _ _ hs'' hk' ht' h'' => hK _ _ _ _ _ _ hs'' ((hk.trans hk').mono fun j hj => by
        simp only [Go.Vc.dstsOps]
        cases hd : o.dst with
        | none => simpa [hd] using hj
        | some d => simpa [hd] using hj) (ht.trans ht') h''
    unfold wpList
    rcases dGuard_sound hs h with ⟨hw, f1, hs1, h1⟩ | ⟨hw, f1, hs1, h1⟩
    · rw [if_pos hw]; exact .inl (dOpF_sound (q := false) hn hok.1 hs1 h1 fun β' f' L' p' a' w' q1 q2 q3 _ q5 => step q1 q2 q3 q5)
    · rw [if_neg (by simp [hw])]; exact step (hs1.put o.dst undef_rel) (keep_put _ _ _) (Tr.refl _ _ _) h1
end
end Go.Dv

namespace Go.Dv
open Go Go.RowKit
open Go.Vc (vis vis_of_cell CellF RowF ValsF D inN okV callable wp_value Stay Sw lodO guardSlot Plan desc inX wpAnyB wpAnyB_first wpAny_of_B Closed dstsOps dst_mem closed_start)

/-! ### A region whose order is drawn -/
def exD (xs : List Nat) (o : Oper) : Bool :=
  (match o.op with
  | .store .. => true
  | .call c => (match c.callee with | .builtin .append => true | _ => false)
  | _ => false) || inX xs o
def okTakeD (ops : Array Oper) (xs : List Nat) (listed : Array Bool) (i : Nat) : Bool :=
  match ops[i]? with
  | none => false
  | some oi => takeO oi && (!lodO oi || (List.range ops.size).all fun j => listed.getD j true || (match ops[j]? with | some oj => !exD xs oj | none => true) || desc ops i ops.size j)
def planOkD (ops : Array Oper) (xs : List Nat) : Nat → Array Bool → Bool → Plan → Bool
  | _, listed, top, .done => top && (Region.ready .any ops listed).isEmpty
  | _, _, top, .nobr => !top
  | fuel, listed, top, .take i p => decide (0 < fuel) && top && (Region.ready .any ops listed).contains i && Region.free .any ops listed i && okTakeD ops xs listed i && planOkD ops xs (fuel - 1) (listed.setIfInBounds i true) true p
  | fuel, listed, top, .br i p q => decide (0 < fuel) && (!top || (Region.ready .any ops listed == i :: q.heads)) && planOkD ops xs (fuel - 1) (listed.setIfInBounds i true) true p && planOkD ops xs fuel listed false q
def dPlan (P : Program) (n : Nat) (ops : Array Oper) (xs : List Nat) (K : K0) : Plan → K0
  | .done => K
  | .nobr => fun _ _ _ => True
  | .take i p => fun f L q => match ops[i]? with
    | some o => dGuard n ops o (dOp (CallK P) P n o) (dPlan P n ops xs K p) f L q
    | none => False
  | .br i p r => fun f L q => (match ops[i]? with
    | some o => dGuard n ops o (dOpF (CallQ (!inX xs o) P) P n o) (dPlan P n ops xs K p) f L q
    | none => False) ∧ dPlan P n ops xs K r f L q
def okAll (ops : Array Oper) : Bool := ops.toList.all okOper
def dDrawn (P : Program) (n : Nat) (ops : Array Oper) (K : K0) : K0 := fun f L q =>
  Region.noSelect ops = true ∧ ∃ (xs : List Nat) (p : Plan), planOkD ops xs ops.size (Array.replicate ops.size false) true p = true ∧ dPlan P n ops xs K p f L q

section
variable {P : Program} {n : Nat} {w0 : World} {ok0 own0 : Nat → Prop} {β : Nat → Option Nat} {f : Rg} {L : Ob} {p : Po} {a : Act} {w : World}
  {K : K0} {Q : Exit → Act → World → Prop} {ops : Array Oper} {xs : List Nat}

theorem eff_ex {o : Oper} (h : eff (!inX xs o) o = true) : exD xs o = true := by
  unfold eff at h
  unfold exD
  cases ho : o.op <;> simp only [ho] at h ⊢ <;> first | rfl | cases h | skip
  split at h
  · rename_i hc; simp [hc]
  · rename_i hc; simp [hc]; simpa using h
  · cases h

theorem dPlan_sound (hn : n ≤ 9000) (hoks : okAll ops = true) (hsel : Region.noSelect ops = true) (hQ : ∀ c a w, ¬ Q (.panic c) a w) : ∀ (r : Plan),
    (∀ (fuel : Nat) (listed : Array Bool) {β : Nat → Option Nat} {f : Rg} {L : Ob} {p : Po} {a : Act} {w : World}, planOkD ops xs fuel listed true r = true → Closed ops listed →
      Sim P n w0 ok0 own0 β f L p a w → dPlan P n ops xs K r f L p → Abs P n w0 ok0 own0 β L a w (dstsOps ops.toList) K (Q .normal) → wpAnyB P ops (exD xs) Q fuel listed a w) ∧
    (∀ (fuel : Nat) (listed : Array Bool) {β : Nat → Option Nat} {f : Rg} {L : Ob} {p : Po} {a : Act} {w : World}, planOkD ops xs fuel listed false r = true → Closed ops listed →
      (∀ i ∈ r.heads, i ∈ Region.ready .any ops listed) →
      Sim P n w0 ok0 own0 β f L p a w → dPlan P n ops xs K r f L p → Abs P n w0 ok0 own0 β L a w (dstsOps ops.toList) K (Q .normal) → ∀ i ∈ r.heads,
        0 < fuel ∧ wpOp P ops Q i (fun a' w' => ((∃ o, ops[i]? = some o ∧ exD xs o = true) ∨ Stay w w') ∧ wpAnyB P ops (exD xs) Q (fuel - 1) (listed.setIfInBounds i true) a' w') a w) := by
  have hoko : ∀ {i o}, ops[i]? = some o → okOper o = true := fun {i o} ho => List.all_eq_true.1 hoks o (by
    have := List.mem_of_getElem? (l := ops.toList) (i := i) (a := o) (by simpa using ho)
    exact this)
  intro r
  induction r with
  | done =>
    refine ⟨fun fuel listed β f L p a w hp hc hs h hK => ?_, fun fuel listed β f L p a w hp => by simp [planOkD] at hp⟩
    simp only [planOkD, Bool.true_and, List.isEmpty_iff] at hp
    have hq : Q .normal a w := hK _ _ _ _ _ _ hs (Keep.refl _ _ _) (Tr.refl _ _ _) h
    cases fuel with
    | zero => exact ⟨hp, hq⟩
    | succ k => exact ⟨fun _ => hq, by rw [hp]; simp⟩
  | nobr => exact ⟨fun fuel listed β f L p a w hp => by simp [planOkD] at hp, fun fuel listed β f L p a w hp hc hr hs h hK i hi => by simp [Plan.heads] at hi⟩
  | take i r ih =>
    refine ⟨fun fuel listed β f L p a w hp hc hs h hK => ?_, fun fuel listed β f L p a w hp => by simp [planOkD] at hp⟩
    simp only [planOkD, Bool.and_eq_true, decide_eq_true_eq] at hp
    obtain ⟨⟨⟨⟨⟨hfu, _⟩, hr⟩, hfree⟩, hok⟩, hp⟩ := hp
    have hr : i ∈ Region.ready .any ops listed := by simpa using hr
    obtain ⟨k, rfl⟩ : ∃ k, fuel = k + 1 := ⟨fuel - 1, by omega⟩
    simp only [Nat.add_sub_cancel] at hp
    unfold dPlan at h
    split at h
    case h_2 => exact h.elim
    rename_i o ho
    unfold okTakeD at hok
    simp only [ho, Bool.and_eq_true] at hok
    obtain ⟨htake, hok⟩ := hok
    have hex : lodO o = true → ∀ j oj, ops[j]? = some oj → listed.getD j true = false → exD xs oj = true → desc ops i ops.size j = true := fun hl j oj hj hun hx => by
      simp only [hl, Bool.not_true, Bool.false_or, List.all_eq_true, List.mem_range] at hok
      have := hok j (Array.getElem?_eq_some_iff.1 hj).1
      simpa [hun, hj, hx] using this
    have go : ∀ {x : S} {v : Value} {f1 : Rg}, Sim P n w0 ok0 own0 β f1 L p a w → YieldsIf P ops (Sw o w) o v a → RelS P w β (okB w0 ok0 L β) x v → dPlan P n ops xs K r (put n f1 o.dst x) L p → wpAnyB P ops (exD xs) Q (k + 1) listed a w := by
      intro x v f1 hs1 hy hcx hk
      refine wpAnyB_first ho (Region.noSelect_spec hsel) (fun c a w hq => (hQ _ _ _ hq).elim) k listed a w hc (Region.free_spec ho hfree) hex hr hy ?_
      refine ih.1 k _ hp (hc.set hr) (hs1.put o.dst hcx) hk fun β' f' L' p' a' w' hs' hk' ht' h' => hK _ _ _ _ _ _ hs' (((keep_put a o.dst v).trans hk').mono fun j hj => ?_) ht' h'
      rcases List.mem_append.1 hj with hj | hj
      · exact dst_mem ho j hj
      · exact hj
    rcases dGuard_sound hs h with ⟨hw, f1, hs1, h1⟩ | ⟨hw, f1, hs1, h1⟩
    · obtain ⟨x, v, hrun, hcx, hk⟩ := take_yv (hoko ho) hs1 h1 htake
      exact go hs1 (.inl ⟨hw, hrun⟩) hcx hk
    · exact go (x := .tu []) hs1 (.inr ⟨hw, rfl⟩) undef_rel h1
  | br i r q ihp ihq =>
    have main : ∀ (fuel : Nat) (listed : Array Bool) {β : Nat → Option Nat} {f : Rg} {L : Ob} {p : Po} {a : Act} {w : World}, 0 < fuel → planOkD ops xs (fuel - 1) (listed.setIfInBounds i true) true r = true → Closed ops listed →
        i ∈ Region.ready .any ops listed → Sim P n w0 ok0 own0 β f L p a w → dPlan P n ops xs K (.br i r q) f L p → Abs P n w0 ok0 own0 β L a w (dstsOps ops.toList) K (Q .normal) →
        wpOp P ops Q i (fun a' w' => ((∃ o, ops[i]? = some o ∧ exD xs o = true) ∨ Stay w w') ∧ wpAnyB P ops (exD xs) Q (fuel - 1) (listed.setIfInBounds i true) a' w') a w := by
      intro fuel listed β f L p a w hfu hp hc hr hs h hK
      obtain ⟨h, _⟩ := h
      split at h
      case h_2 => exact h.elim
      rename_i o ho
      unfold wpOp
      simp only [ho]
      have rest : ∀ {β' : Nat → Option Nat} {f' : Rg} {L' : Ob} {p' : Po} {a' : Act} {w' : World}, Sim P n w0 ok0 own0 β' f' L' p' a' w' → Keep o.dst.toList β a β' a' → Tr L β w L' β' w' → dPlan P n ops xs K r f' L' p' → wpAnyB P ops (exD xs) Q (fuel - 1) (listed.setIfInBounds i true) a' w' := by
        intro β' f' L' p' a' w' hs' hk' ht' h'
        refine ihp.1 (fuel - 1) _ hp (hc.set hr) hs' h' fun β'' f'' L'' p'' a'' w'' hs'' hk'' ht'' h'' => hK _ _ _ _ _ _ hs'' ((hk'.trans hk'').mono fun j hj => ?_) (ht'.trans ht'') h''
        rcases List.mem_append.1 hj with hj | hj
        · exact dst_mem ho j hj
        · exact hj
      rcases dGuard_sound hs h with ⟨hw, f1, hs1, h1⟩ | ⟨hw, f1, hs1, h1⟩
      · simp only [hw, if_true]
        refine .inl (dOpF_sound hn (hoko ho) hs1 h1 fun β' f' L' p' a' w' q1 q2 q3 q4 q5 => ⟨?_, rest q1 q2 q3 q5⟩)
        cases he : eff (!inX xs o) o with
        | true => exact .inl ⟨o, rfl, eff_ex he⟩
        | false => exact .inr (q4 he)
      · simp only [hw, Bool.false_eq_true, if_false]
        exact ⟨.inr (Stay.refl w), rest (hs1.put o.dst undef_rel) (keep_put a o.dst undef) (Tr.refl _ _ _) h1⟩
    refine ⟨fun fuel listed β f L p a w hp hc hs h hK => ?_, fun fuel listed β f L p a w hp hc hr hs h hK j hj => ?_⟩
    · simp only [planOkD, Bool.and_eq_true, decide_eq_true_eq, Bool.not_true, Bool.false_or, beq_iff_eq] at hp
      obtain ⟨⟨⟨hfu, hready⟩, hp⟩, hq⟩ := hp
      have hin : i ∈ Region.ready .any ops listed := by rw [hready]; simp
      obtain ⟨k, rfl⟩ : ∃ k, fuel = k + 1 := ⟨fuel - 1, by omega⟩
      refine ⟨fun h0 => (by rw [h0] at hready; cases hready), fun j hj => ?_⟩
      rw [hready] at hj
      rcases List.mem_cons.1 hj with rfl | hj
      · have := main (k + 1) listed hfu hp hc hin hs h hK
        simpa using this
      · have := (ihq.2 (k + 1) listed hq hc (fun j hj => by rw [hready]; simp [hj]) hs h.2 hK j hj).2
        simpa using this
    · simp only [planOkD, Bool.and_eq_true, decide_eq_true_eq, Bool.not_false, Bool.true_or, and_true] at hp
      obtain ⟨⟨hfu, hp⟩, hq⟩ := hp
      simp only [Plan.heads] at hj hr
      rcases List.mem_cons.1 hj with rfl | hj
      · exact ⟨hfu, main fuel listed hfu hp hc (hr j (by simp)) hs h hK⟩
      · exact ihq.2 fuel listed hq hc (fun j hj => hr j (by simp [hj])) hs h.2 hK j hj

end
end Go.Dv

namespace Go.Dv
open Go Go.RowKit
open Go.Vc (vis vis_of_cell CellF RowF ValsF D inN okV Stay)

/-! ## Steps that nobody sees -/
inductive Gh where
  | ren (i j : Nat)
  | virt (s j : Nat) (ty : TypeId)
  | virtC (i off j : Nat) (ty : TypeId)
def renN (i j : Nat) : List Nat → List Nat
  | [] => []
  | k :: r => (if k = i then j else k) :: renN i j r
def renC (i j : Nat) : C → C
  | .p k o => if k = i then .p j o else .p k o
  | .s k m => if k = i then .s j m else .s k m
  | .fn g a b => .fn g (renN i j a) (renN i j b)
  | x => x
def renCs (i j : Nat) : List C → List C
  | [] => []
  | x :: r => renC i j x :: renCs i j r
def renTs (i j : Nat) : List (List C × Bool) → List (List C × Bool)
  | [] => []
  | (cs, b) :: r => (renCs i j cs, b) :: renTs i j r
def renS (i j : Nat) : S → S
  | .c x => .c (renC i j x)
  | .ag cs => .ag (renCs i j cs)
  | .tu xs => .tu (renTs i j xs)
def renO (i j : Nat) : O → O
  | .str cs => .str (renCs i j cs)
  | .arr t m ds F => .arr t m ds F
def renL (i j : Nat) : Ob → Ob
  | [] => []
  | (k, b) :: r => (if k = i then j else k, renO i j b) :: renL i j r
def renR (i j : Nat) (f : Rg) : Rg := fun s => renS i j (f s)
def ghs (ws : List Nat) : List Gh → (Rg → Ob → Prop) → Rg → Ob → Prop
  | [], k, f, L => k f L
  | .ren i j :: r, k, f, L => i ≠ j ∧ inN ws (fam j) = true ∧ ghs ws r k (renR i j (kR [] [j] f)) (renL i j (kL [] [j] L))
  | .virt s j ty :: r, k, f, L => (match kS [] [j] (f s) with | .c (.v (.slice none 0 0)) => True | _ => False) ∧ inN ws (fam j) = true ∧ ghs ws r k (upd (kR [] [j] f) s (.c (.s j 0))) ((j, .arr ty 0 [] (some [])) :: kL [] [j] L)
  | .virtC i off j ty :: r, k, f, L => inN ws (fam j) = true ∧ (match look ((j, .arr ty 0 [] (some [])) :: kL [] [j] L) i with
    | some (.str cs) => (match cs[off]? with
      | some (.v (.slice none 0 0)) => ghs ws r k (kR [] [j] f) (setL ((j, .arr ty 0 [] (some [])) :: kL [] [j] L) i (.str (cs.set off (.s j 0))))
      | _ => False)
    | _ => False)

section
variable {P : Program} {n : Nat} {w0 : World} {ok0 own0 : Nat → Prop} {β : Nat → Option Nat} {f : Rg} {L : Ob} {p : Po} {a : Act} {w : World}

theorem Sim.drew (hs : Sim P n w0 ok0 own0 β f L p a w) : Sim P n w0 ok0 own0 β f L p a w.drew :=
  ⟨hs.size, hs.defers, fun j => RelS.st (w := w) (w' := w.drew) ⟨fun _ _ h => ⟨rfl, h⟩, fun _ cs _ lh hc => ⟨cs, lh, hc, rfl⟩⟩ (hs.slots j), fun j ob hj => RelO.st (w := w) (w' := w.drew) ⟨fun _ _ h => ⟨rfl, h⟩, fun _ cs _ lh hc => ⟨cs, lh, hc, rfl⟩⟩ (hs.objs j ob hj) (fun _ _ => rfl), hs.inj, hs.old, hs.sub, hs.frame, hs.wd, hs.outer, hs.pool⟩

theorem stab_mono {ok ok' : Nat → Prop} (h : ∀ b, ok b → ok' b) : Stab w w ok ok' := ⟨fun b _ hb => ⟨rfl, h b hb⟩, fun _ cs _ lh hc => ⟨cs, lh, hc, rfl⟩⟩
theorem okB_mono {L' : Ob} {β' : Nat → Option Nat} (h : ∀ b, ownB L' β' b → ownB L β b) : ∀ b, okB w0 ok0 L β b → okB w0 ok0 L' β' b := fun _ hb => ⟨fun ho => hb.1 (h _ ho), hb.2⟩
theorem look_kL_some {ds is : List Nat} {L : Ob} {i : Nat} {o : O} (h : look (kL ds is L) i = some o) : ∃ o', look L i = some o' ∧ hit ds is i = false ∧ o = kO ds is o' := by
  rw [look_kL] at h
  split at h
  · cases h
  · rename_i hh
    cases hl : look L i with
    | none => simp [hl] at h
    | some o' => simp [hl] at h; exact ⟨o', rfl, by simpa using hh, h.symm⟩
theorem Sim.kill (hs : Sim P n w0 ok0 own0 β f L p a w) (ds is : List Nat) : Sim P n w0 ok0 own0 β (kR ds is f) (kL ds is L) p a w := by
  have hown : ∀ b, ownB (kL ds is L) β b → ownB L β b := fun b ⟨i, o, h1, h2⟩ => by obtain ⟨o', h3, _⟩ := look_kL_some h1; exact ⟨i, o', h3, h2⟩
  have hst := stab_mono (w := w) (okB_mono (w0 := w0) (ok0 := ok0) hown)
  refine ⟨hs.size, hs.defers, fun i => (hs.slots i).tr (fun _ _ => rfl) hst, fun i o hl => ?_, fun i j o o' b hi hj => ?_, fun b hb => hs.old b (hown b hb), hs.sub, hs.frame, hs.wd, hs.outer, fun ps hps => ?_⟩
  · obtain ⟨o', h1, h2, rfl⟩ := look_kL_some hl
    exact (hs.objs i o' h1).tr (fun _ _ => rfl) hst h2 fun _ _ => rfl
  · obtain ⟨o1, h1, _⟩ := look_kL_some hi
    obtain ⟨o2, h2, _⟩ := look_kL_some hj
    exact hs.inj i j o1 o2 b h1 h2
  · obtain ⟨h1, h2⟩ := hs.pool ps hps
    exact ⟨h1, fun b hb => ⟨(h2 b hb).1, (h2 b hb).2.1, fun ho => (h2 b hb).2.2 (hown b ho)⟩⟩

/-- Objects that are dropped; footprints that are told no more. -/
def SubO (A B : Ob) : Prop := ∀ p ∈ A, look B p.1 = some p.2
def PoSub (p q : Po) : Prop := ∀ qs, q = some qs → ∃ ps, p = some ps ∧ Sb qs.flatten ps.flatten
theorem look_memO : ∀ {A : Ob} {i : Nat} {o : O}, look A i = some o → (i, o) ∈ A
  | [], _, _, h => by simp [look] at h
  | (j, b) :: r, i, o, h => by
    simp only [look] at h
    split at h
    · rename_i e; injection h with h; subst e h; simp
    · exact List.mem_cons_of_mem _ (look_memO h)
theorem Sb.nodup {A B : List Nat} (h : Sb A B) (hb : B.Nodup) : A.Nodup := List.nodup_iff_count.2 fun x => Nat.le_trans (h x) (List.nodup_iff_count.1 hb x)
theorem Sb.mem {A B : List Nat} (h : Sb A B) {x : Nat} (hx : x ∈ A) : x ∈ B := List.count_pos_iff.1 (Nat.lt_of_lt_of_le (List.count_pos_iff.2 hx) (h x))
theorem SubO.own {A B : Ob} (h : SubO A B) {b : Nat} : ownB A β b → ownB B β b := fun ⟨i, o, h1, h2⟩ => ⟨i, o, h (i, o) (look_memO h1), h2⟩
theorem Sim.drop (hs : Sim P n w0 ok0 own0 β f L p a w) {L' : Ob} {p' : Po} (hl : SubO L' L) (hp : PoSub p p') : Sim P n w0 ok0 own0 β f L' p' a w := by
  have hown : ∀ b, ownB L' β b → ownB L β b := fun b => hl.own
  have hst := stab_mono (w := w) (okB_mono (w0 := w0) (ok0 := ok0) hown)
  have hlk : ∀ i o, look L' i = some o → look L i = some o := fun i o h => hl (i, o) (look_memO h)
  refine ⟨hs.size, hs.defers, fun i => (hs.slots i).st hst, fun i o h => (hs.objs i o (hlk i o h)).st hst fun _ _ => rfl, fun i j o o' b hi hj => hs.inj i j o o' b (hlk i o hi) (hlk j o' hj), fun b hb => hs.old b (hown b hb), hs.sub, hs.frame, hs.wd, hs.outer, fun qs hqs => ?_⟩
  obtain ⟨ps, h1, h2⟩ := hp qs hqs
  obtain ⟨h3, h4⟩ := hs.pool ps h1
  exact ⟨h2.nodup h3, fun b hb => ⟨(h4 b (h2.mem hb)).1, (h4 b (h2.mem hb)).2.1, fun ho => (h4 b (h2.mem hb)).2.2 (hown b ho)⟩⟩
theorem Tr.drop {L' : Ob} (hl : SubO L' L) : Tr L β w L' β w := ⟨Nat.le_refl _, fun _ _ _ => rfl, fun _ _ h => hl.own h, fun _ cs _ lh hc => ⟨cs, lh, hc, rfl⟩⟩

/-- A new object without a block. -/
theorem Sim.virt (hs : Sim P n w0 ok0 own0 β f L p a w) {j : Nat} {ty : TypeId} {F : Fp} :
    Sim P n w0 ok0 own0 (fun k => if k = j then none else β k) (kR [] [j] f) ((j, .arr ty 0 [] F) :: kL [] [j] L) p a w ∧ Tr L β w ((j, .arr ty 0 [] F) :: kL [] [j] L) (fun k => if k = j then none else β k) w := by
  have hk := hs.kill [] [j]
  have hβ : ∀ k, hit [] [j] k = false → (fun k => if k = j then none else β k) k = β k := fun k h => by
    have : ¬ k = j := fun e => by subst e; simp [hit, inN] at h
    simp [this]
  have hcase : ∀ i o, look ((j, O.arr ty 0 [] F) :: kL [] [j] L) i = some o → (i = j ∧ o = .arr ty 0 [] F) ∨ (i ≠ j ∧ ∃ o', look L i = some o' ∧ hit [] [j] i = false ∧ o = kO [] [j] o') := fun i o h => by
    simp only [look] at h
    split at h
    · rename_i e; injection h with h; exact .inl ⟨e.symm, h.symm⟩
    · rename_i e; exact .inr ⟨fun e' => e e'.symm, look_kL_some h⟩
  have hown : ∀ b, ownB ((j, O.arr ty 0 [] F) :: kL [] [j] L) (fun k => if k = j then none else β k) b → ownB L β b := by
    rintro b ⟨i, o, h1, h2⟩
    rcases hcase i o h1 with ⟨rfl, _⟩ | ⟨hne, o', h3, _⟩
    · simp at h2
    · exact ⟨i, o', h3, by simpa [hne] using h2⟩
  have hst := stab_mono (w := w) (okB_mono (w0 := w0) (ok0 := ok0) hown)
  refine ⟨⟨hs.size, hs.defers, fun i => (hs.slots i).tr hβ hst, fun i o hl => ?_, fun i k o o' b hi hj hbi hbj => ?_, fun b hb => hs.old b (hown b hb), hs.sub, hs.frame, hs.wd, hs.outer, fun ps hps => ?_⟩, ⟨Nat.le_refl _, fun _ _ _ => rfl, fun b _ h => hown b h, fun _ cs _ lh hc => ⟨cs, lh, hc, rfl⟩⟩⟩
  · rcases hcase i o hl with ⟨rfl, rfl⟩ | ⟨_, o', h3, h4, rfl⟩
    · exact .inl ⟨by simp, rfl, rfl⟩
    · exact (hs.objs i o' h3).tr hβ hst h4 fun _ _ => rfl
  · rcases hcase i o hi with ⟨rfl, _⟩ | ⟨h1, o1, h3, _⟩
    · simp at hbi
    · rcases hcase k o' hj with ⟨rfl, _⟩ | ⟨h2, o2, h4, _⟩
      · simp at hbj
      · exact hs.inj i k o1 o2 b h3 h4 (by simpa [h1] using hbi) (by simpa [h2] using hbj)
  · obtain ⟨h1, h2⟩ := hs.pool ps hps
    exact ⟨h1, fun b hb => ⟨(h2 b hb).1, (h2 b hb).2.1, fun ho => (h2 b hb).2.2 (hown b ho)⟩⟩

/-! ### Renaming -/
section
variable {i j : Nat} {ok : Nat → Prop}
theorem ren_ptrs : ∀ {l : List Nat} {vs : List Value}, hitL [] [j] l = false → Ptrs β l vs → Ptrs (fun k => if k = j then β i else β k) (renN i j l) vs
  | [], [], _, _ => trivial
  | k :: r, v :: t, h, hp => by
    simp only [hitL, Bool.or_eq_false_iff] at h
    have hkj : ¬ k = j := fun e => by subst e; simp [hit, inN] at h
    refine ⟨?_, ren_ptrs h.2 hp.2⟩
    obtain ⟨b, h1, h2⟩ := hp.1
    by_cases e : k = i
    · subst e; exact ⟨b, by simp [h1], h2⟩
    · exact ⟨b, by simp [e, hkj, h1], h2⟩
  | [], _ :: _, _, h => h.elim
  | _ :: _, [], _, h => h.elim
theorem ren_rel {x : C} {y : Value} (h : RelC P w β ok x y) : RelC P w (fun k => if k = j then β i else β k) ok (renC i j (kC [] [j] x)) y := by
  cases x with
  | p k o =>
    simp only [kC]
    split
    · trivial
    · rename_i hh
      have hkj : ¬ k = j := fun e => by subst e; simp [hit, inN] at hh
      obtain ⟨b, h1, h2⟩ := h
      simp only [renC]
      split
      · rename_i e; subst e; exact ⟨b, by simp [h1], h2⟩
      · exact ⟨b, by simp [hkj, h1], h2⟩
  | s k m =>
    have h : OwnS P w (β k) m y := h
    simp only [kC]
    split
    · trivial
    · rename_i hh
      have hkj : ¬ k = j := fun e => by subst e; simp [hit, inN] at hh
      simp only [renC]
      split
      · rename_i e; subst e
        show OwnS P w (if j = j then β k else β j) m y
        rw [if_pos rfl]; exact h
      · show OwnS P w (if k = j then β i else β k) m y
        rw [if_neg hkj]; exact h
  | fn g a b =>
    simp only [kC]
    split
    · trivial
    · split
      · trivial
      · rename_i h1 h2
        obtain ⟨va, vb, h3, h4, h5⟩ := h
        exact ⟨va, vb, h3, ren_ptrs (by simpa using h1) h4, ren_ptrs (by simpa using h2) h5⟩
  | v x => exact h
  | sl m ds F => exact h
  | q ds => exact h
  | ow ty m ds F => exact h
  | dead => trivial
  | self => exact h
theorem renC_self {i j : Nat} {x : C} (h : renC i j x = C.self) : x = C.self := by
  cases x <;> simp only [renC] at h <;> first | rfl | cases h | (split at h <;> cases h)
theorem renCs_self {i j : Nat} : ∀ {cs : List C} {k : Nat}, (renCs i j cs)[k]? = some C.self → cs[k]? = some C.self
  | [], k, h => by simp [renCs] at h
  | y :: r, 0, h => by simp only [renCs, List.getElem?_cons_zero, Option.some.injEq] at h ⊢; exact renC_self h
  | y :: r, k + 1, h => by simp only [renCs, List.getElem?_cons_succ] at h ⊢; exact renCs_self h
theorem ren_relL : ∀ {x : List C} {y : List Value}, RelL P w β ok x y → RelL P w (fun k => if k = j then β i else β k) ok (renCs i j (kCs [] [j] x)) y
  | [], [], _ => trivial
  | _ :: _, _ :: _, h => ⟨ren_rel h.1, ren_relL h.2⟩
  | [], _ :: _, h => h.elim
  | _ :: _, [], h => h.elim
theorem ren_relT : ∀ {x : List (List C × Bool)} {y : List Value}, RelT P w β ok x y → RelT P w (fun k => if k = j then β i else β k) ok (renTs i j (kTs [] [j] x)) y
  | [], [], _ => trivial
  | (cs, b) :: _, _ :: _, h => ⟨by
      obtain ⟨h1, _⟩ := h
      simp only [RelT1] at h1 ⊢
      cases b with
      | true => exact ren_relL (by simpa using h1)
      | false =>
        simp only [Bool.false_eq_true, if_false] at h1 ⊢
        obtain ⟨vs, h2, h3⟩ := h1
        exact ⟨vs, h2, ren_relL h3⟩, ren_relT h.2⟩
  | [], _ :: _, h => h.elim
  | _ :: _, [], h => h.elim
theorem ren_relS {x : S} {y : Value} (h : RelS P w β ok x y) : RelS P w (fun k => if k = j then β i else β k) ok (renS i j (kS [] [j] x)) y := by
  cases x with
  | c x => exact ren_rel h
  | ag cs => obtain ⟨vs, h1, h2⟩ := h; exact ⟨vs, h1, ren_relL h2⟩
  | tu xs => obtain ⟨vs, h1, h2⟩ := h; exact ⟨vs, h1, ren_relT h2⟩
end
theorem look_renL {i j : Nat} : ∀ {L : Ob} {k : Nat} {o : O}, look (renL i j (kL [] [j] L)) k = some o → ∃ k' o', look L k' = some o' ∧ k' ≠ j ∧ k = (if k' = i then j else k') ∧ o = renO i j (kO [] [j] o')
  | [], _, _, h => by simp [kL, renL, look] at h
  | (q, b) :: r, k, o, h => by
    simp only [kL] at h
    have next : look (renL i j (kL [] [j] r)) k = some o → (∀ k', k = (if k' = i then j else k') → k' ≠ j → k' ≠ q) → ∃ k' o', look ((q, b) :: r) k' = some o' ∧ k' ≠ j ∧ k = (if k' = i then j else k') ∧ o = renO i j (kO [] [j] o') := by
      intro h hq
      obtain ⟨k', o', h1, h2, h3, h4⟩ := look_renL h
      refine ⟨k', o', ?_, h2, h3, h4⟩
      simp only [look]; rw [if_neg fun e => hq k' h3 h2 e.symm]; exact h1
    split at h
    · rename_i hh
      have hqj : q = j := by simp [hit, inN] at hh; exact hh.symm
      exact next h fun k' _ hj e => hj (e.trans hqj)
    · rename_i hh
      have hqj : q ≠ j := fun e => by subst e; simp [hit, inN] at hh
      simp only [renL, look] at h
      by_cases e : (if q = i then j else q) = k
      · rw [if_pos e] at h
        injection h with h
        exact ⟨q, b, by simp [look], hqj, e.symm, h.symm⟩
      · rw [if_neg e] at h
        refine next h fun k' hk hj e' => e ?_
        subst e'; exact hk.symm
theorem Sim.ren (hs : Sim P n w0 ok0 own0 β f L p a w) {i j : Nat} (hij : i ≠ j) :
    Sim P n w0 ok0 own0 (fun k => if k = j then β i else β k) (renR i j (kR [] [j] f)) (renL i j (kL [] [j] L)) p a w ∧ Tr L β w (renL i j (kL [] [j] L)) (fun k => if k = j then β i else β k) w := by
  have hβ : ∀ k', k' ≠ j → (fun k => if k = j then β i else β k) (if k' = i then j else k') = β k' := fun k' hk => by
    by_cases e : k' = i
    · subst e; simp
    · simp [e, hk]
  have hown : ∀ b, ownB (renL i j (kL [] [j] L)) (fun k => if k = j then β i else β k) b → ownB L β b := by
    rintro b ⟨k, o, h1, h2⟩
    obtain ⟨k', o', h3, h4, rfl, _⟩ := look_renL h1
    exact ⟨k', o', h3, by rw [← hβ k' h4]; exact h2⟩
  have hst := stab_mono (w := w) (okB_mono (w0 := w0) (ok0 := ok0) hown)
  refine ⟨⟨hs.size, hs.defers, fun k => ren_relS ((hs.slots k).st hst), fun k o hl => ?_, fun k k' o o' b hk hk' hb hb' => ?_, fun b hb => hs.old b (hown b hb), hs.sub, hs.frame, hs.wd, hs.outer, fun ps hps => ?_⟩, ⟨Nat.le_refl _, fun _ _ _ => rfl, fun b _ h => hown b h, fun _ cs _ lh hc => ⟨cs, lh, hc, rfl⟩⟩⟩
  · obtain ⟨k', o', h3, h4, rfl, rfl⟩ := look_renL hl
    have hr := (hs.objs k' o' h3).st hst fun _ _ => rfl
    cases o' with
    | str cs => obtain ⟨b, vs, ty, lh, q1, q2, hlh, hsf, q3⟩ := hr; exact ⟨b, vs, ty, lh, (hβ k' h4).trans q1, q2, hlh, hsf.kCs.map fun k => renCs_self, ren_relL q3⟩
    | arr ty m ds F =>
      rcases hr with ⟨q1, q2⟩ | ⟨b, vs, hd, junk, G, lh, q1, q2⟩
      · exact .inl ⟨(hβ k' h4).trans q1, q2⟩
      · exact .inr ⟨b, vs, hd, junk, G, lh, (hβ k' h4).trans q1, q2⟩
  · obtain ⟨k1, o1, h3, h4, rfl, _⟩ := look_renL hk
    obtain ⟨k2, o2, h5, h6, rfl, _⟩ := look_renL hk'
    have := hs.inj k1 k2 o1 o2 b h3 h5 (by rw [← hβ k1 h4]; exact hb) (by rw [← hβ k2 h6]; exact hb')
    rw [this]
  · obtain ⟨h1, h2⟩ := hs.pool ps hps
    exact ⟨h1, fun b hb => ⟨(h2 b hb).1, (h2 b hb).2.1, fun ho => (h2 b hb).2.2 (hown b ho)⟩⟩

/-- An object told anew. -/
theorem Sim.reobj (hs : Sim P n w0 ok0 own0 β f L p a w) {i : Nat} {ob ob' : O} (hl : look L i = some ob) (hr : RelO P w β (okB w0 ok0 L β) i ob') : Sim P n w0 ok0 own0 β f (setL L i ob') p a w ∧ Tr L β w (setL L i ob') β w := by
  have hown : ∀ b, ownB (setL L i ob') β b → ownB L β b := fun b => (ownB_setL hl b).1
  have hst := stab_mono (w := w) (okB_mono (w0 := w0) (ok0 := ok0) hown)
  refine ⟨⟨hs.size, hs.defers, fun k => (hs.slots k).st hst, fun k o h => ?_, fun j j' o o' x hj hj' hx hx' => ?_, fun b hb => hs.old b (hown b hb), hs.sub, hs.frame, hs.wd, hs.outer, fun ps hps => ?_⟩, ⟨Nat.le_refl _, fun _ _ _ => rfl, fun b _ h => hown b h, fun _ cs _ lh hc => ⟨cs, lh, hc, rfl⟩⟩⟩
  · rw [look_setL] at h
    split at h
    · rename_i e; subst e; injection h with h; subst h; exact hr.st hst fun _ _ => rfl
    · exact (hs.objs k o h).st hst fun _ _ => rfl
  · have aux : ∀ j o, look (setL L i ob') j = some o → ∃ o', look L j = some o' := by
      intro j o hj
      rw [look_setL] at hj
      split at hj
      · rename_i e; subst e; exact ⟨ob, hl⟩
      · exact ⟨o, hj⟩
    obtain ⟨o1, h1⟩ := aux j o hj
    obtain ⟨o2, h2⟩ := aux j' o' hj'
    exact hs.inj j j' o1 o2 x h1 h2 hx hx'
  · obtain ⟨h1, h2⟩ := hs.pool ps hps
    exact ⟨h1, fun b hb => ⟨(h2 b hb).1, (h2 b hb).2.1, fun ho => (h2 b hb).2.2 (hown b ho)⟩⟩
theorem RelL.set {ok : Nat → Prop} : ∀ {cs : List C} {vs : List Value} {off : Nat} {x y : C}, RelL P w β ok cs vs → cs[off]? = some x → (∀ v, RelC P w β ok x v → RelC P w β ok y v) → RelL P w β ok (cs.set off y) vs
  | [], _, _, _, _, _, h, _ => by simp at h
  | _ :: _, [], _, _, _, h, _, _ => h.elim
  | c :: r, v :: t, 0, x, y, h, hx, hy => by simp at hx; subst hx; exact ⟨hy v h.1, h.2⟩
  | c :: r, v :: t, off + 1, x, y, h, hx, hy => ⟨h.1, RelL.set h.2 (by simpa using hx) hy⟩

theorem ghs_sound {ws : List Nat} {k : Rg → Ob → Prop} : ∀ (gs : List Gh) {β : Nat → Option Nat} {f : Rg} {L : Ob}, Sim P n w0 ok0 own0 β f L p a w → ghs ws gs k f L →
    ∃ β' f' L', Sim P n w0 ok0 own0 β' f' L' p a w ∧ (∀ i, fam i ∉ ws → β' i = β i) ∧ Tr L β w L' β' w ∧ k f' L'
  | [], β, f, L, hs, h => ⟨β, f, L, hs, fun _ _ => rfl, Tr.refl _ _ _, h⟩
  | .ren i j :: r, β, f, L, hs, ⟨h1, h2, h3⟩ => by
    obtain ⟨hs', ht⟩ := hs.ren h1
    obtain ⟨β', f', L', q1, q2, q3, q4⟩ := ghs_sound r hs' h3
    refine ⟨β', f', L', q1, fun m hm => (q2 m hm).trans ?_, ht.trans q3, q4⟩
    have : ¬ m = j := fun e => hm (by rw [e]; exact inN_iff.1 h2)
    simp [this]
  | .virt s j ty :: r, β, f, L, hs, ⟨h1, h2, h3⟩ => by
    obtain ⟨hs', ht⟩ := hs.virt (j := j) (ty := ty) (F := some [])
    have hsl := hs'.slots s
    have hv : RelS P w (fun k => if k = j then none else β k) (okB w0 ok0 ((j, .arr ty 0 [] (some [])) :: kL [] [j] L) (fun k => if k = j then none else β k)) (.c (.s j 0)) (a.tmps.getD s undef) := by
      have e : kR [] [j] f s = kS [] [j] (f s) := rfl
      rw [e] at hsl
      split at h1
      · rename_i he
        rw [he] at hsl
        show OwnS P w (if j = j then none else β j) 0 _
        rw [if_pos rfl]; exact ⟨rfl, hsl.1⟩
      · exact h1.elim
    obtain ⟨β', f', L', q1, q2, q3, q4⟩ := ghs_sound r (hs'.refine_slot hv) h3
    refine ⟨β', f', L', q1, fun m hm => (q2 m hm).trans ?_, ht.trans q3, q4⟩
    have : ¬ m = j := fun e => hm (by rw [e]; exact inN_iff.1 h2)
    simp [this]
  | .virtC i off j ty :: r, β, f, L, hs, ⟨h2, h3⟩ => by
    obtain ⟨hs', ht⟩ := hs.virt (j := j) (ty := ty) (F := some [])
    split at h3
    case h_2 => exact h3.elim
    rename_i cs hl
    split at h3
    case h_2 => exact h3.elim
    rename_i hcs
    have hro := hs'.objs i _ hl
    obtain ⟨b, vs, ty', lh, e1, e2, hlh, hsf, e3⟩ := hro
    obtain ⟨hs'', ht'⟩ := hs'.reobj (ob' := .str (cs.set off (.s j 0))) hl ⟨b, vs, ty', lh, e1, e2, hlh, hsf.map fun k hk => (by
      rw [List.getElem?_set] at hk
      split at hk
      · split at hk <;> cases hk
      · exact hk), e3.set hcs fun v hv => by
      show OwnS P w (if j = j then none else β j) 0 _
      rw [if_pos rfl]; exact ⟨rfl, hv.1⟩⟩
    obtain ⟨β', f', L', q1, q2, q3, q4⟩ := ghs_sound r hs'' h3
    refine ⟨β', f', L', q1, fun m hm => (q2 m hm).trans ?_, (ht.trans ht').trans q3, q4⟩
    have : ¬ m = j := fun e => hm (by rw [e]; exact inN_iff.1 h2)
    simp [this]
end
end Go.Dv

namespace Go.Dv
open Go Go.RowKit
open Go.Vc (vis vis_of_cell CellF RowF ValsF D inN okV callable wp_value Stay guardSlot Plan desc inX wpAny_of_B closed_start dstsOps dsts wp_loop_nat tyS)

/-! ## Code -/
def mixR (ws : List Nat) (f g : Rg) : Rg := fun i => if inN ws i = true then g i else kS ws [] (f i)
def dLoop (ws : List Nat) (body : KE → K0) (K : KE) : K0 := fun f0 L0 p0 =>
  ∃ gs : List Gh, ghs ws gs (fun f L => ∃ (L1 : Ob) (p1 : Po) (I : Rg → Ob → Po → Prop) (μ : Rg → Ob → Po → Nat), SubO L1 L ∧ PoSub p0 p1 ∧ I (mixR ws f f) L1 p1 ∧
    ((∀ g L2 p2, I (mixR ws f g) L2 p2 → body (fun e f' L' p' => match e with
      | .normal => ∃ L3 p3, SubO L3 L' ∧ PoSub p' p3 ∧ I (mixR ws f f') L3 p3 ∧ μ (mixR ws f f') L3 p3 < μ (mixR ws f g) L2 p2
      | e => K e f' L' p') (mixR ws f g) L2 p2) ∨
     (∀ g L2 p2, I (mixR ws f g) L2 p2 → body (fun e f' L' p' => match e with
      | .normal => ∃ hs : List Gh, ghs ws hs (fun f' L' => ∃ L3 p3, SubO L3 L' ∧ PoSub p' p3 ∧ I (mixR ws f f') L3 p3 ∧ μ (mixR ws f f') L3 p3 < μ (mixR ws f g) L2 p2) f' L'
      | e => K e f' L' p') (mixR ws f g) L2 p2))) f0 L0
def d (P : Program) (n : Nat) : Code → KE → K0
  | .skip, K => K .normal
  | .label _, K => K .normal
  | .region _ ops false, K => dl P n ops (K .normal) ops.toList
  | .region _ ops true, K => dDrawn P n ops (K .normal)
  | .seq a b, K => d P n a fun e => match e with | .normal => d P n b K | e => K e
  | .cond c a b, K => fun f L p => match ev f c with
    | .c (.v (.bool t)) => (t = true → d P n a K f L p) ∧ (t = false → d P n b K f L p)
    | _ => False
  | .block id c, K => d P n c fun e => match e with
    | .exit id' => if id' = id then K .normal else K (.exit id')
    | e => K e
  | .loop c, K => dLoop (dsts c) (d P n c) K
  | .exit id, K => K (.exit id)
  | .ret, K => K .ret
  | _, _ => fun _ _ _ => False
def okCode : Code → Bool
  | .region _ ops _ => okAll ops
  | .seq a b => okCode a && okCode b
  | .cond c a b => okOpd c && okCode a && okCode b
  | .block _ c => okCode c
  | .loop c => okCode c
  | _ => true

section
variable {P : Program} {n : Nat} {w0 : World} {ok0 own0 : Nat → Prop} {β : Nat → Option Nat} {f : Rg} {L : Ob} {p : Po} {a : Act} {w : World}
  {K : K0} {Q : Exit → Act → World → Prop} {ops : Array Oper} {xs : List Nat}

theorem dDrawn_sound {id : Nat} (hm : P.follows .mixedOrders = true) (hn : n ≤ 9000) (hok : okAll ops = true) (hs : Sim P n w0 ok0 own0 β f L p a w) (h : dDrawn P n ops K f L p)
    (hK : Abs P n w0 ok0 own0 β L a w (dstsOps ops.toList) K (Q .normal)) : (Code.region id ops true).wp P Q a w := by
  obtain ⟨hsel, xs, r, hp, h⟩ := h
  have hb := (dPlan_sound (P := P) (n := n) (w0 := w0) (ok0 := ok0) (own0 := own0) (K := K) (xs := xs) (Q := fun e a w => e = .normal ∧ Q .normal a w) hn hok hsel (fun c a w hq => by cases hq.1) r).1 ops.size (Array.replicate ops.size false) hp closed_start hs.drew h
    (fun β' f' L' p' a' w' hs' hk' ht' h' => ⟨rfl, hK _ _ _ _ _ _ hs' hk' ⟨ht'.size, ht'.keep, ht'.own, ht'.cells⟩ h'⟩)
  have hr := wp_region_any (id := id) hm (wpAny_of_B _ _ _ _ hb)
  exact Code.wp_mono (fun e a w h => by obtain ⟨rfl, h⟩ := h; exact h) hr

/-- Slots that a loop doesn't write are as they were ahead of it. -/
theorem Sim.mix {ws : List Nat} {β' : Nat → Option Nat} {g : Rg} {L' : Ob} {p' : Po} {a' : Act} {w' : World} (h0 : Sim P n w0 ok0 own0 β f L p a w) (h : Sim P n w0 ok0 own0 β' g L' p' a' w')
    (hk : Keep ws β a β' a') (ht : Tr L β w L' β' w') : Sim P n w0 ok0 own0 β' (mixR ws f g) L' p' a' w' := by
  refine ⟨h.size, h.defers, fun i => ?_, h.objs, h.inj, h.old, h.sub, h.frame, h.wd, h.outer, h.pool⟩
  simp only [mixR]
  split
  · exact h.slots i
  · rename_i hi
    have hi : i ∉ ws := fun e => hi (inN_iff.2 e)
    rw [hk.tmps i hi]
    refine (h0.slots i).tr (fun k hk' => hk.beta k fun e => ?_) ⟨fun b hv hb => ⟨ht.keep b (vis_lt hv) hb.1, fun ho => hb.1 (ht.own b (vis_lt hv) ho), hb.2⟩, ht.cells⟩
    simp [hit, inN_iff.2 e] at hk'

theorem d_sound (hm : P.follows .mixedOrders = true) (hn : n ≤ 9000) : ∀ (c : Code) {K : KE} {Q : Exit → Act → World → Prop} {β : Nat → Option Nat} {f : Rg} {L : Ob} {p : Po} {a : Act} {w : World}, okCode c = true →
    Sim P n w0 ok0 own0 β f L p a w → d P n c K f L p →
    (∀ e β' f' L' p' a' w', Sim P n w0 ok0 own0 β' f' L' p' a' w' → Keep (dsts c) β a β' a' → Tr L β w L' β' w' → K e f' L' p' → Q e a' w') → c.wp P Q a w
  | .skip, K, Q, β, f, L, p, a, w, _, hs, h, hK => wp_skip (hK _ _ _ _ _ _ _ hs (Keep.refl _ _ _) (Tr.refl _ _ _) h)
  | .label l, K, Q, β, f, L, p, a, w, _, hs, h, hK => wp_label (hK _ _ _ _ _ _ _ hs (Keep.refl _ _ _) (Tr.refl _ _ _) h)
  | .exit id, K, Q, β, f, L, p, a, w, _, hs, h, hK => wp_exit (hK _ _ _ _ _ _ _ hs (Keep.refl _ _ _) (Tr.refl _ _ _) h)
  | .ret, K, Q, β, f, L, p, a, w, _, hs, h, hK => wp_ret (hK _ _ _ _ _ _ _ hs (Keep.refl _ _ _) (Tr.refl _ _ _) h)
  | .region id ops false, K, Q, β, f, L, p, a, w, hok, hs, h, hK => wp_region_list (dl_sound hn ops.toList hok hs h fun _ _ _ _ _ _ hs' hk ht h' => hK _ _ _ _ _ _ _ hs' hk ht h')
  | .region id ops true, K, Q, β, f, L, p, a, w, hok, hs, h, hK => dDrawn_sound hm hn hok hs h fun _ _ _ _ _ _ hs' hk ht h' => hK _ _ _ _ _ _ _ hs' hk ht h'
  | .seq x y, K, Q, β, f, L, p, a, w, hok, hs, h, hK => by
    simp only [okCode, Bool.and_eq_true] at hok
    refine wp_seq (d_sound hm hn x hok.1 hs h fun e β' f' L' p' a' w' hs' hk ht h' => ?_)
    have hk' : Keep (dsts (.seq x y)) β a β' a' := hk.mono fun j hj => by simp [dsts, hj]
    cases e with
    | normal => exact d_sound hm hn y hok.2 hs' h' fun e β'' f'' L'' p'' a'' w'' hs'' hk'' ht'' h'' => hK _ _ _ _ _ _ _ hs'' (hk.trans hk'') (ht.trans ht'') h''
    | exit id => exact hK _ _ _ _ _ _ _ hs' hk' ht h'
    | goto l => exact hK _ _ _ _ _ _ _ hs' hk' ht h'
    | ret => exact hK _ _ _ _ _ _ _ hs' hk' ht h'
    | panic ch => exact hK _ _ _ _ _ _ _ hs' hk' ht h'
    | outgrown => exact hK _ _ _ _ _ _ _ hs' hk' ht h'
  | .cond c x y, K, Q, β, f, L, p, a, w, hok, hs, h, hK => by
    simp only [okCode, Bool.and_eq_true] at hok
    have hc := ev_rel hs hok.1.1
    simp only [d] at h
    split at h
    · rename_i t hev
      rw [hev] at hc
      have hc : a.eval c = .bool t := hc.1
      refine wp_cond_split hc (fun ht => ?_) (fun ht => ?_)
      · exact d_sound hm hn x hok.1.2 hs (h.1 ht) fun e β'' f'' L'' p'' a'' w'' hs'' hk'' ht'' h'' => hK _ _ _ _ _ _ _ hs'' (hk''.mono fun j hj => by simp [dsts, hj]) ht'' h''
      · exact d_sound hm hn y hok.2 hs (h.2 ht) fun e β'' f'' L'' p'' a'' w'' hs'' hk'' ht'' h'' => hK _ _ _ _ _ _ _ hs'' (hk''.mono fun j hj => by simp [dsts, hj]) ht'' h''
    · exact h.elim
  | .block id c, K, Q, β, f, L, p, a, w, hok, hs, h, hK => by
    refine wp_block (d_sound hm hn c hok hs h fun e β' f' L' p' a' w' hs' hk ht h' => ?_)
    have hk' : Keep (dsts (.block id c)) β a β' a' := hk
    cases e with
    | exit id' =>
      simp only [Exit.inBlock]
      by_cases hid : id' = id
      · simp only [hid, if_true] at h' ⊢; exact hK _ _ _ _ _ _ _ hs' hk' ht h'
      · simp only [hid, if_false] at h' ⊢; exact hK _ _ _ _ _ _ _ hs' hk' ht h'
    | normal => exact hK _ _ _ _ _ _ _ hs' hk' ht h'
    | goto l => exact hK _ _ _ _ _ _ _ hs' hk' ht h'
    | ret => exact hK _ _ _ _ _ _ _ hs' hk' ht h'
    | panic ch => exact hK _ _ _ _ _ _ _ hs' hk' ht h'
    | outgrown => exact hK _ _ _ _ _ _ _ hs' hk' ht h'
  | .loop c, K, Q, β₀, f₀, L₀, p₀, a, w, hok, hs₀, h, hK => by
    obtain ⟨gs, h⟩ := h
    obtain ⟨β, f, L, hs, hβ0, ht0, L1, p1, I, μ, hsub, hpo, hI, hround⟩ := ghs_sound gs hs₀ h
    have hs1 := hs.drop hsub hpo
    have hk0 : Keep (dsts c) β₀ a β a := ⟨fun j hj => hβ0 j hj, fun _ _ => rfl⟩
    have ht1 : Tr L₀ β₀ w L1 β w := ht0.trans (Tr.drop hsub)
    refine wp_loop_nat (P := P) (k₀ := μ (mixR (dsts c) f f) L1 p1)
      (fun k a' w' => ∃ β' g L2 p2, Sim P n w0 ok0 own0 β' (mixR (dsts c) f g) L2 p2 a' w' ∧ Keep (dsts c) β a β' a' ∧ Tr L1 β w L2 β' w' ∧ I (mixR (dsts c) f g) L2 p2 ∧ k = μ (mixR (dsts c) f g) L2 p2) ?_ ?_
    · rintro k a' w' ⟨β', g, L2, p2, hs2, hk1, ht2, hI2, rfl⟩
      rcases hround with hround | hround
      · refine d_sound hm hn c hok hs2 (hround g L2 p2 hI2) fun e β'' f'' L'' p'' a'' w'' hs'' hk'' ht'' h'' => ?_
        have hk2 : Keep (dsts c) β a β'' a'' := (hk1.trans hk'').mono fun j hj => by simpa using hj
        have hk3 : Keep (dsts (.loop c)) β₀ a β'' a'' := (hk0.trans hk2).mono fun j hj => by simpa [dsts] using hj
        have ht3 := ht2.trans ht''
        have ht4 := ht1.trans ht3
        cases e with
        | normal => 
          obtain ⟨L3, p3, hsub3, hpo3, hI3, hlt⟩ := h''
          have hmix := hs1.mix hs'' hk2 ht3
          exact ⟨_, hlt, β'', f'', L3, p3, hmix.drop hsub3 hpo3, hk2, ht3.trans (Tr.drop hsub3), hI3, rfl⟩
        | exit id => exact hK _ _ _ _ _ _ _ hs'' hk3 ht4 h''
        | goto l => exact hK _ _ _ _ _ _ _ hs'' hk3 ht4 h''
        | ret => exact hK _ _ _ _ _ _ _ hs'' hk3 ht4 h''
        | panic ch => exact hK _ _ _ _ _ _ _ hs'' hk3 ht4 h''
        | outgrown => exact hK _ _ _ _ _ _ _ hs'' hk3 ht4 h''
      · refine d_sound hm hn c hok hs2 (hround g L2 p2 hI2) fun e β'' f'' L'' p'' a'' w'' hs'' hk'' ht'' h'' => ?_
        have hk2 : Keep (dsts c) β a β'' a'' := (hk1.trans hk'').mono fun j hj => by simpa using hj
        have hk3 : Keep (dsts (.loop c)) β₀ a β'' a'' := (hk0.trans hk2).mono fun j hj => by simpa [dsts] using hj
        have ht3 := ht2.trans ht''
        have ht4 := ht1.trans ht3
        cases e with
        | normal => 
          obtain ⟨gs', h''⟩ := h''
          obtain ⟨β3, f3, L4, hs4, hβ4, ht5, L3, p3, hsub3, hpo3, hI3, hlt⟩ := ghs_sound gs' hs'' h''
          have hk4 : Keep (dsts c) β a β3 a'' := ⟨fun j hj => (hβ4 j hj).trans (hk2.beta j hj), hk2.tmps⟩
          have ht6 := ht3.trans ht5
          have hmix := hs1.mix hs4 hk4 ht6
          exact ⟨_, hlt, β3, f3, L3, p3, hmix.drop hsub3 hpo3, hk4, ht6.trans (Tr.drop hsub3), hI3, rfl⟩
        | exit id => exact hK _ _ _ _ _ _ _ hs'' hk3 ht4 h''
        | goto l => exact hK _ _ _ _ _ _ _ hs'' hk3 ht4 h''
        | ret => exact hK _ _ _ _ _ _ _ hs'' hk3 ht4 h''
        | panic ch => exact hK _ _ _ _ _ _ _ hs'' hk3 ht4 h''
        | outgrown => exact hK _ _ _ _ _ _ _ hs'' hk3 ht4 h''
    · exact ⟨β, f, L1, p1, hs1.mix hs1 (Keep.refl _ _ _) (Tr.refl _ _ _), Keep.refl _ _ _, Tr.refl _ _ _, hI, rfl⟩
  | .rangeFunc _ _ _ _, K, Q, β, f, L, p, a, w, _, hs, h, hK => h.elim
  | .scope _, K, Q, β, f, L, p, a, w, _, hs, h, hK => h.elim
  | .goto _, K, Q, β, f, L, p, a, w, _, hs, h, hK => h.elim
  | .refuse _, K, Q, β, f, L, p, a, w, _, hs, h, hK => h.elim
end
end Go.Dv

namespace Go.Dv
open Go Go.RowKit
open Go.Vc (vis vis_of_cell CellF RowF ValsF D inN okV callable wp_value Stay dsts tyS TS resV results_run wrapRes add_lit0 run_loadVar_one run_loadVar_agg)

/-! ## The end of a call -/
def resS (P : Program) (L : Ob) (f : Rg) : ResultVar → Option S
  | .tmp t => some (f t)
  | .cell p ty => match f p with
    | .c (.p i 0) => (match look L i with
      | some (.str cs) => mkS (tyS P ty) cs
      | _ => none)
    | _ => none
def resAll (P : Program) (L : Ob) (f : Rg) : List ResultVar → Option (List S)
  | [] => some []
  | r :: rs => match resS P L f r with
    | some s => (match resAll P L f rs with | some ss => some (s :: ss) | none => none)
    | none => none
/-- Own slices within structs are handed over as data. -/
def ownsS : List S → Option Nat
  | [] => none
  | .ag cs :: r => (match ownsC cs with | some i => some i | none => ownsS r)
  | _ :: r => ownsS r
def outS : Nat → List S → (List S → K0) → K0
  | 0, _, _ => fun _ _ _ => False
  | fuel + 1, ss, k => match ownsS ss with
    | none => k ss
    | some i => frz i fun m x => outS fuel (fSs i m x ss) k
/-- The results as one. -/
def wrapS : List S → Option S
  | [s] => some s
  | ss => (compsS ss).map .tu
  where
  compsS : List S → Option (List (List C × Bool))
  | [] => some []
  | .c x :: r => (match compsS r with | some q => some (([x], true) :: q) | none => none)
  | .ag cs :: r => (match compsS r with | some q => some ((cs, false) :: q) | none => none)
  | .tu _ :: _ => none
def idp : Nat → Nat → List (Nat × Nat)
  | _, 0 => []
  | k, m + 1 => (9000 + k, 9000 + k) :: idp (k + 1) m
def leT (ρ : List (Nat × Nat)) (L : Ob) : List (List C × Bool) → List (List C × Bool) → Prop
  | [], [] => True
  | (a, t) :: r, (b, u) :: s => t = u ∧ leL ρ L a b ∧ leT ρ L r s
  | _, _ => False
def leR (ρ : List (Nat × Nat)) (L : Ob) : S → S → Prop
  | .c x, .c y => leC ρ L x y
  | .ag a, .ag b => leL ρ L a b
  | .tu a, .tu b => leT ρ L a b
  | _, _ => False
def rhoT : List (List C × Bool) → List (List C × Bool) → List (Nat × Nat)
  | (a, _) :: r, (b, _) :: s => rhoL a b ++ rhoT r s
  | _, _ => []
def rhoR : S → S → List (Nat × Nat)
  | .c x, .c y => rhoC x y
  | .ag a, .ag b => rhoL a b
  | .tu a, .tu b => rhoT a b
  | _, _ => []
def rhoE (L : Ob) (s r : S) (nobj : Nat) (objs : List (List C)) : List (Nat × Nat) := rhoB L (idp 0 nobj ++ rhoR s (expS 9700 r)) (back r objs)
def brwT : List (List C × Bool) → List (List C × Bool) → List Nat
  | (a, _) :: r, (b, _) :: s => brwL a b ++ brwT r s
  | _, _ => []
def brwR : S → S → List Nat
  | .c x, .c y => brwC x y
  | .ag a, .ag b => brwL a b
  | .tu a, .tu b => brwT a b
  | _, _ => []
def brwE (L : Ob) (ρ : List (Nat × Nat)) (s r : S) (objs : List (List C)) : List Nat := brwR s (expS 9700 r) ++ brwB L ρ (back r objs)
/-- Footprints that are told come from the pool. -/
def inPool (p : Po) (F : List (List Nat)) : Prop := match p with
  | none => F = []
  | some ps => Sb F.flatten ps.flatten
/-- What stands at the end is what the contract says. -/
structure EndOk (L : Ob) (p : Po) (s r : S) (nobj : Nat) (objs : List (List C)) : Prop where
  len : objs.length = nobj
  flat : flat r objs = true
  res : leR (rhoE L s r nobj objs) L s (expS 9700 r)
  obj : leB (rhoE L s r nobj objs) L (back r objs)
  once : nodupB ((rhoE L s r nobj objs).map (·.2)) = true
  disj : disjB (brwE L (rhoE L s r nobj objs) s r objs) ((rhoE L s r nobj objs).map (·.2)) = true
  pool : inPool p (fps r objs)
def dRet (P : Program) (rs : List ResultVar) (nobj : Nat) (R : S → List (List C) → Prop) : K0 := fun f L p =>
  match resAll P L f rs with
  | some ss => outS 12 ss (fun ss _ L p => match wrapS ss with
    | some s => ∃ r objs, R r objs ∧ EndOk L p s r nobj objs
    | none => False) f L p
  | none => False
def endK (P : Program) (rs : List ResultVar) (nobj : Nat) (R : S → List (List C) → Prop) : KE
  | .normal | .ret => dRet P rs nobj R
  | _ => fun _ _ _ => False
/-- The end of a function that comes back with a pointer to its own new struct. -/
def dRetN (P : Program) (rs : List ResultVar) (R : List C → Prop) : K0 := fun f L p =>
  match resAll P L f rs with
  | some [.c (.p i 0)] => ∃ cs, look L i = some (.str cs) ∧ plainL cs = true ∧ R cs
  | _ => False
def endKN (P : Program) (rs : List ResultVar) (R : List C → Prop) : KE
  | .normal | .ret => dRetN P rs R
  | _ => fun _ _ _ => False
def regs0 : List S → Rg
  | [] => fun _ => .tu []
  | v :: vs => fun i => match i with | 0 => v | i + 1 => regs0 vs i

section
variable {P : Program} {n : Nat} {w0 : World} {ok0 own0 : Nat → Prop} {β : Nat → Option Nat} {f : Rg} {L : Ob} {p : Po} {a : Act} {w : World}

theorem resS_sound (hs : Sim P n w0 ok0 own0 β f L p a w) {r : ResultVar} {s : S} (h : resS P L f r = some s) :
    ∃ v, (resV a.tmps r).run P w = .ok v w ∧ RelS P w β (okB w0 ok0 L β) s v := by
  cases r with
  | tmp t => simp only [resS, Option.some.injEq] at h; subst h; exact ⟨_, rfl, hs.slots t⟩
  | cell q ty =>
    simp only [resS] at h
    have hp := hs.slots q
    split at h
    case h_2 => cases h
    rename_i i hev
    rw [hev] at hp
    obtain ⟨b, hb, hp⟩ := hp
    split at h
    case h_2 => cases h
    rename_i cs hl
    obtain ⟨b', vs, ty', lh, h1, h2, hlh, _, h3⟩ := hs.objs i _ hl
    rw [hb] at h1; injection h1 with h1; subst h1
    have hcell : ∀ j, w.cell? ⟨b, j, none⟩ = vs.toList[j]? := fun j => by rw [cell_of_row w b j vs _ _ h2]; simp
    rcases mkS_rel h h3 with ⟨ht, v, hv, hr⟩ | ⟨k, ht, hk, hr⟩
    · have hrun : (loadVar ty ⟨b, 0, none⟩).run P w = .ok v w := run_loadVar_one ht (by rw [hcell, hv]; rfl)
      exact ⟨v, by simp [resV, hp, asAddr, hrun], hr⟩
    · have hrun : (loadVar ty ⟨b, 0, none⟩).run P w = .ok (.agg vs.toList.toArray) w :=
        run_loadVar_agg ht hk (fun j v hj => by rw [add_lit0, Nat.zero_add, hcell]; exact hj)
      exact ⟨_, by simp [resV, hp, asAddr, hrun], hr⟩
theorem resAll_sound (hs : Sim P n w0 ok0 own0 β f L p a w) : ∀ {rs : List ResultVar} {ss : List S}, resAll P L f rs = some ss →
    ∃ vs, (rs.mapM (resV a.tmps)).run P w = .ok vs w ∧ RelA P w β (okB w0 ok0 L β) ss vs
  | [], ss, h => by simp only [resAll, Option.some.injEq] at h; subst h; exact ⟨[], rfl, trivial⟩
  | r :: rs, ss, h => by
    simp only [resAll] at h
    cases hr : resS P L f r with
    | none => simp [hr] at h
    | some s => cases hrs : resAll P L f rs with
      | none => simp [hr, hrs] at h
      | some us =>
        simp only [hr, hrs, Option.some.injEq] at h
        subst h
        obtain ⟨v, h1, h2⟩ := resS_sound hs hr
        obtain ⟨vs, h3, h4⟩ := resAll_sound hs hrs
        exact ⟨v :: vs, by simp only [List.mapM_cons, Sem.run_bind, h1, Result.andThen_ok, h3, Sem.run_pure], h2, h4⟩
theorem outS_sound {k : List S → K0} : ∀ (fuel : Nat) {ss : List S} {f : Rg} {L : Ob} {p : Po} {vs : List Value}, Sim P n w0 ok0 own0 β f L p a w → RelA P w β (okB w0 ok0 L β) ss vs → outS fuel ss k f L p →
    ∃ ss' f' L' p', k ss' f' L' p' ∧ Sim P n w0 ok0 own0 β f' L' p' a w ∧ Tr L β w L' β w ∧ RelA P w β (okB w0 ok0 L' β) ss' vs
  | 0, _, _, _, _, _, _, _, h => h.elim
  | fuel + 1, ss, f, L, p, vs, hs, hr, h => by
    cases hi : ownsS ss with
    | none => simp only [outS, hi] at h; exact ⟨ss, f, L, p, h, hs, Tr.refl _ _ _, hr⟩
    | some i =>
      simp only [outS, hi] at h
      obtain ⟨m, x, f', L', p', hk, hs', ht, hm, hx⟩ := frz_sound hs h
      obtain ⟨ss', f'', L'', p'', hk', hs'', ht', hr'⟩ := outS_sound fuel hs' (fSs_rel hm hx hr) hk
      exact ⟨ss', f'', L'', p'', hk', hs'', ht.trans ht', hr'⟩
theorem comps_rel {ok : Nat → Prop} : ∀ {ss : List S} {vs : List Value} {q : List (List C × Bool)}, RelA P w β ok ss vs → wrapS.compsS ss = some q → RelT P w β ok q vs
  | [], [], q, _, h => by simp [wrapS.compsS] at h; subst h; trivial
  | s :: r, v :: vs, q, hr, h => by
    cases s with
    | tu xs => simp [wrapS.compsS] at h
    | c x =>
      simp only [wrapS.compsS] at h
      split at h
      · rename_i q' hq
        injection h with h; subst h
        exact ⟨by simp only [RelT1, if_true]; exact ⟨hr.1, trivial⟩, comps_rel hr.2 hq⟩
      · cases h
    | ag cs =>
      simp only [wrapS.compsS] at h
      split at h
      · rename_i q' hq
        injection h with h; subst h
        exact ⟨by simp only [RelT1, Bool.false_eq_true, if_false]; exact hr.1, comps_rel hr.2 hq⟩
      · cases h
  | [], _ :: _, _, hr, _ => hr.elim
  | _ :: _, [], _, hr, _ => hr.elim
theorem wrap_rel {ok : Nat → Prop} {ss : List S} {vs : List Value} {s : S} (hr : RelA P w β ok ss vs) (h : wrapS ss = some s) : RelS P w β ok s (wrapRes vs) := by
  have tup : ∀ {vs : List Value} {ss : List S}, RelA P w β ok ss vs → (wrapS.compsS ss).map S.tu = some s → RelS P w β ok s (.tuple vs.toArray) := by
    intro vs ss hr h
    cases hq : wrapS.compsS ss with
    | none => simp [hq] at h
    | some q => simp [hq] at h; subst h; exact ⟨vs, rfl, comps_rel hr hq⟩
  match ss, vs, hr with
  | [], [], hr => exact tup hr h
  | [x], [v], hr => simp [wrapS] at h; subst h; exact hr.1
  | x :: y :: r, v :: u :: t, hr => exact tup hr h
  | [], _ :: _, hr => exact hr.elim
  | _ :: _, [], hr => exact hr.elim
  | [_], _ :: _ :: _, hr => exact hr.2.elim
  | _ :: _ :: _, [_], hr => exact hr.2.elim

variable {ρ : List (Nat × Nat)} {A : Ob} {bs : List Nat}
theorem leT_rel (hs : Sim P n w0 ok0 own0 β f L p a w) (hB : leB ρ L A) (hd : ∀ i ∈ bs, i ∉ ρ.map (·.2)) : ∀ {x c : List (List C × Bool)} {y : List Value}, (∀ i ∈ brwT x c, i ∈ bs) → leT ρ L x c → RelT P w β (okB w0 ok0 L β) x y →
    RelT P w (bc ρ β) (okA (okc w0 ok0 L β bs) A (bc ρ β)) c y
  | [], [], [], _, _, _ => trivial
  | (x, t) :: r, (c, u) :: s, y :: q, hb, h, hr => by
    obtain ⟨rfl, h1, h2⟩ := h
    refine ⟨?_, leT_rel hs hB hd (fun i hi => hb i (by simp [brwT, hi])) h2 hr.2⟩
    have hr1 := hr.1
    simp only [RelT1] at hr1 ⊢
    have hb1 : ∀ i ∈ brwL x c, i ∈ bs := fun i hi => hb i (by simp [brwT, hi])
    split
    · rename_i ht; rw [if_pos ht] at hr1; exact leL_rel hs hB hd hb1 h1 hr1
    · rename_i ht; rw [if_neg ht] at hr1; obtain ⟨vs, q1, q2⟩ := hr1; exact ⟨vs, q1, leL_rel hs hB hd hb1 h1 q2⟩
  | [], [], _ :: _, _, _, hr => hr.elim
  | [], _ :: _, _, _, h, _ => h.elim
  | _ :: _, [], _, _, h, _ => h.elim
  | _ :: _, _ :: _, [], _, _, hr => hr.elim
theorem leR_rel (hs : Sim P n w0 ok0 own0 β f L p a w) (hB : leB ρ L A) (hd : ∀ i ∈ bs, i ∉ ρ.map (·.2)) {x c : S} {y : Value} (hb : ∀ i ∈ brwR x c, i ∈ bs) (h : leR ρ L x c) (hr : RelS P w β (okB w0 ok0 L β) x y) :
    RelS P w (bc ρ β) (okA (okc w0 ok0 L β bs) A (bc ρ β)) c y := by
  cases x <;> cases c <;> simp only [leR] at h
  · exact leC_rel hs hB hd hb h hr
  · obtain ⟨vs, h1, h2⟩ := hr
    exact ⟨vs, h1, leL_rel hs hB hd hb h h2⟩
  · obtain ⟨vs, h1, h2⟩ := hr
    exact ⟨vs, h1, leT_rel hs hB hd hb h h2⟩
theorem lk_append_some : ∀ {ρ σ : List (Nat × Nat)} {j i : Nat}, lk ρ j = some i → lk (ρ ++ σ) j = some i
  | [], _, _, _, h => by simp [lk] at h
  | (a, b) :: r, σ, j, i, h => by
    simp only [List.cons_append, lk] at h ⊢
    split
    · rename_i e; rw [if_pos e] at h; exact h
    · rename_i e; rw [if_neg e] at h; exact lk_append_some h
theorem lk_rhoB : ∀ {A : Ob} {ρ : List (Nat × Nat)} {j i : Nat}, lk ρ j = some i → lk (rhoB L ρ A) j = some i
  | [], _, _, _, h => h
  | (q, .str cs) :: r, ρ, j, i, h => by
    simp only [rhoB]
    split
    · split
      · exact lk_rhoB (lk_append_some h)
      · exact lk_rhoB h
    · exact lk_rhoB h
  | (q, .arr ..) :: r, ρ, j, i, h => by simp only [rhoB]; exact lk_rhoB h
theorem lk_idp : ∀ {m k t : Nat}, t < m → lk (idp k m) (9000 + (k + t)) = some (9000 + (k + t))
  | 0, _, _, h => by omega
  | m + 1, k, 0, _ => by simp [idp, lk]
  | m + 1, k, t + 1, h => by
    have ih := lk_idp (m := m) (k := k + 1) (t := t) (by omega)
    have e : 9000 + (k + (t + 1)) = 9000 + (k + 1 + t) := by omega
    rw [e]
    simp only [idp, lk]
    rw [if_neg (by omega)]; exact ih

theorem end_sound {rs : List ResultVar} {R : S → List (List C) → Prop} {Lc : Ob} {βc : Nat → Option Nat} {okk : Nat → Prop} {nobj : Nat} (hs : Sim P n w0 (fun b => okk b ∨ ownB Lc βc b) (ownB Lc βc) β f L p a w) (h : dRet P rs nobj R f L p)
    (hfix : ∀ k, k < nobj → β (9000 + k) = βc (9000 + k)) (htr : Tr Lc βc w0 L β w) :
    ∃ vs, (rs.mapM (resV a.tmps)).run P w = .ok vs w ∧ ∃ r objs β', R r objs ∧ Post P w0 βc okk Lc nobj (wrapRes vs) w r objs β' := by
  unfold dRet at h
  split at h
  case h_2 => exact h.elim
  rename_i ss hss
  obtain ⟨vs, hrun, hr⟩ := resAll_sound hs hss
  obtain ⟨ss', f', L', p', hk, hs', ht, hr'⟩ := outS_sound 12 hs hr h
  split at hk
  case h_2 => exact hk.elim
  rename_i s hsw
  obtain ⟨r, objs, hR, e⟩ := hk
  have hrs := wrap_rel hr' hsw
  have htr' := htr.trans ht
  obtain ⟨e1, e2, e3, e4, e5, e6, e7⟩ := e
  generalize hρ : rhoE L' s r nobj objs = ρ at *
  have hd := disjB_spec e6
  generalize hbs : brwE L' ρ s r objs = bs at *
  have hb1 : ∀ i ∈ brwR s (expS 9700 r), i ∈ bs := fun i hi => by rw [← hbs]; exact List.mem_append_left _ hi
  have hb2 : ∀ i ∈ brwB L' ρ (back r objs), i ∈ bs := fun i hi => by rw [← hbs]; exact List.mem_append_right _ hi
  have hrel := leR_rel hs' e4 hd hb1 e3 hrs
  have hobj := lent_objs hs' e4 e5 hd hb2
  have hok : ∀ b, okA (okc w0 (fun b => okk b ∨ ownB Lc βc b) L' β bs) (back r objs) (bc ρ β) b → okR w0 okk Lc βc (back r objs) (bc ρ β) b := fun b hb => ⟨hb.1, fun hlt => by
    rcases hb.2 with h1 | ⟨i, _, ⟨o, h1⟩, h2⟩
    · exact h1.2 hlt
    · exact .inr (hs'.old b ⟨i, o, h1, h2⟩ hlt)⟩
  have hown : ∀ b, ownB (back r objs) (bc ρ β) b → ownB L' β b := fun b ho => by
    obtain ⟨j, i, o1, o2, _, _, h3, _, h4⟩ := ownB_lent e4 ho; exact ⟨i, o2, h3, h4⟩
  have hst := stab_mono (w := w) hok
  refine ⟨vs, hrun, r, objs, bc ρ β, hR, ⟨hrel.st hst, ⟨fun i o hl => (hobj.rel i o hl).st hst fun _ _ => rfl, hobj.inj⟩, fun k hk => ?_, e1, ⟨htr'.size, htr'.keep, fun b hb ho => htr'.own b hb (hown b ho), htr'.cells⟩, hs'.wd, hs'.outer, ?_, e2⟩⟩
  · have : lk ρ (9000 + k) = some (9000 + k) := by
      rw [← hρ]
      refine lk_rhoB (lk_append_some ?_)
      have := lk_idp (m := nobj) (k := 0) (t := k) hk
      rwa [Nat.zero_add] at this
    simp only [bc, this, Option.bind_some]
    exact hfix k hk
  · unfold inPool at e7
    split at e7
    · rw [e7]; exact ⟨List.nodup_nil, fun b hb => by cases hb⟩
    · rename_i ps
      obtain ⟨h1, h2⟩ := hs'.pool ps rfl
      exact ⟨e7.nodup h1, fun b hb => ⟨(h2 b (e7.mem hb)).1, (h2 b (e7.mem hb)).2.1, fun ho => (h2 b (e7.mem hb)).2.2 (hown b ho)⟩⟩

theorem regs0_rel {ok : Nat → Prop} (k : Nat) : ∀ {args : List S} {vs : List Value} (_ : RelA P w β ok args vs) (i : Nat), RelS P w β ok (regs0 args i) ((vs ++ List.replicate k undef)[i]?.getD undef)
  | [], [], _, i => by
    have : (([] : List Value) ++ List.replicate k undef)[i]?.getD undef = undef := by
      simp only [List.nil_append, List.getElem?_replicate]; split <;> rfl
    rw [this]; exact undef_rel
  | x :: r, v :: t, h, 0 => h.1
  | x :: r, v :: t, h, i + 1 => by simpa [regs0] using regs0_rel k h.2 i
  | [], _ :: _, h, _ => h.elim
  | _ :: _, [], h, _ => h.elim
theorem RelA.length {ok : Nat → Prop} : ∀ {xs : List S} {vs : List Value}, RelA P w β ok xs vs → xs.length = vs.length
  | [], [], _ => rfl
  | _ :: _, _ :: _, h => by simp [RelA.length h.2]
  | [], _ :: _, h => h.elim
  | _ :: _, [], h => h.elim
theorem expA_length : ∀ (b : Nat) (xs : List S), (expA b xs).length = xs.length
  | _, [] => rfl
  | b, x :: r => by simp [expA, expA_length]

/-- The function's contract, by the walk. fr: freshness is told. -/
theorem cl_of_d (hm : P.follows .mixedOrders = true) {fi : FuncId} {fn : Func} {c : Code} {args : List S} {objs : List (List C)} {R : S → List (List C) → Prop} (fr : Bool) (hf : P.funcs[fi]? = some fn) (hb : fn.body = some c)
    (hc : (callable P fi && decide (fn.ntmps ≤ 9000) && decide (args.length ≤ fn.ntmps) && okCode c && (dsts c).all (fun j => decide (j < 9000)) && decide (objs.length ≤ 100)) = true)
    (h : d P fn.ntmps c (endK P fn.results.toList objs.length R) (regs0 (expA 9500 args)) (lent args objs) (if fr = true then some [] else none)) : Cl P fi args objs R := by
  simp only [Bool.and_eq_true, decide_eq_true_eq] at hc
  obtain ⟨⟨⟨⟨⟨hcall, hn⟩, hargs⟩, hok⟩, hds⟩, hobjs⟩ := hc
  refine ⟨hcall, fun w βc okk vs ha ho hg => calls_of_wp hf hb ?_⟩
  have hup : ∀ b, okA okk (lent args objs) βc b → okB w (fun b => okk b ∨ ownB (lent args objs) βc b) (lent args objs) βc b := fun b hb => ⟨hb.1, fun _ => .inl hb.2⟩
  have hst := stab_mono (w := w) hup
  have hlen : vs.length = args.length := by rw [← ha.length, expA_length]
  have ha' : RelA P w βc (okB w (fun b => okk b ∨ ownB (lent args objs) βc b) (lent args objs) βc) (expA 9500 args) vs := by
    have : ∀ {xs : List S} {us : List Value}, RelA P w βc (okA okk (lent args objs) βc) xs us → RelA P w βc (okB w (fun b => okk b ∨ ownB (lent args objs) βc b) (lent args objs) βc) xs us := by
      intro xs
      induction xs with
      | nil => intro us h; cases us <;> exact h
      | cons x r ih => intro us h; cases us with
        | nil => exact h.elim
        | cons u t => exact ⟨h.1.st hst, ih h.2⟩
    exact this ha
  have hs : Sim P fn.ntmps w (fun b => okk b ∨ ownB (lent args objs) βc b) (ownB (lent args objs) βc) βc (regs0 (expA 9500 args)) (lent args objs) (if fr = true then some [] else none) { tmps := vs.toArray ++ Array.replicate (fn.ntmps - vs.toArray.size) undef, defers := [] } w := by
    refine ⟨by simp; omega, rfl, fun i => ?_, fun i o hl => (ho.rel i o hl).st hst fun _ _ => rfl, ho.inj, fun b hb _ => hb, ⟨fun b hb => .inr hb, hg⟩, fun _ _ _ => rfl, Wd.refl _, ⟨rfl, rfl, rfl⟩, fun ps hps => ?_⟩
    · have := regs0_rel (fn.ntmps - vs.length) ha' i
      have e : (vs.toArray ++ Array.replicate (fn.ntmps - vs.toArray.size) undef)[i]? = (vs ++ List.replicate (fn.ntmps - vs.length) undef)[i]? := by
        rw [← Array.getElem?_toList]; simp
      simp only [Array.getD_eq_getD_getElem?, e]; exact this
    · split at hps
      · injection hps with hps; subst hps; exact ⟨List.nodup_nil, fun b hb => by cases hb⟩
      · cases hps
  refine d_sound hm hn c hok hs h fun e β' f' L' p' a' w' hs' hk ht h' => ?_
  have fin : dRet P fn.results.toList objs.length R f' L' p' → a'.defers = [] ∧ ∃ v, (results fn a'.tmps).run P w' = .ok v w' ∧
      (fun e w'' => ∃ v r objs' β'', e = Ending.returned v ∧ R r objs' ∧ Post P w βc okk (lent args objs) objs.length v w'' r objs' β'') (.returned v) w' := by
    intro h'
    obtain ⟨us, hrun, r, os, β'', hR, hp⟩ := end_sound hs' h' (fun k hk' => hk.beta _ fun e => by
      have h1 := List.all_eq_true.1 hds _ e
      simp only [decide_eq_true_eq] at h1
      rw [fam_fam (by omega)] at h1
      omega) ht
    exact ⟨hs'.defers, _, results_run hrun, _, r, os, β'', rfl, hR, hp⟩
  cases e with
  | normal => exact fin h'
  | ret => exact fin h'
  | exit id => exact h'.elim
  | goto l => exact h'.elim
  | panic ch => exact h'.elim
  | outgrown => exact h'.elim
theorem RelA.okmono {ok ok' : Nat → Prop} (h : ∀ b, ok b → ok' b) : ∀ {xs : List S} {us : List Value}, RelA P w β ok xs us → RelA P w β ok' xs us
  | [], [], _ => trivial
  | [], _ :: _, h1 => h1.elim
  | _ :: _, [], h1 => h1.elim
  | _ :: _, _ :: _, h1 => ⟨h1.1.st (stab_mono (w := w) h), h1.2.okmono h⟩

end
end Go.Dv

namespace Go.Dv
open Go Go.RowKit
open Go.Vc (okV run_eqGuard plainV shrI xorI andI bytes_eq Plan)

section
variable {P : Program} {n : Nat} {d : Option Nat} {K : K0} {f : Rg} {L : Ob} {p : Po} {t s : TypeId} {x y : Operand} {k yk : IntKind} {a b : Int} {u v : ByteArray} {i j : Bool}
theorem dPure_of {s : Sem Value} {v : Value} (h : ∀ w, s.run P w = .ok v w) (hk : okV v) : dPure P n d s K f L p = K (put n f d (.c (.v v))) L p := by
  unfold dPure
  apply propext
  constructor
  · rintro ⟨v', hv, _, hk'⟩
    have := (hv default).symm.trans (h default)
    injection this with e _
    subst e; exact hk'
  · exact fun hk' => ⟨v, h, hk, hk'⟩
theorem pu_add : dPure P n d (do eqGuard .add t x y (.int k a) (.int k b); binOp .add t (.int k a) (.int k b)) K f L p = K (put n f d (.c (.v (.int k (k.wrap (a + b)))))) L p :=
  dPure_of (fun w => by rw [run_eqGuard rfl]; simp [binOp, Op.intArith]) trivial
theorem pu_sub : dPure P n d (do eqGuard .sub t x y (.int k a) (.int k b); binOp .sub t (.int k a) (.int k b)) K f L p = K (put n f d (.c (.v (.int k (k.wrap (a - b)))))) L p :=
  dPure_of (fun w => by rw [run_eqGuard rfl]; simp [binOp, Op.intArith]) trivial
theorem pu_mul : dPure P n d (do eqGuard .mul t x y (.int k a) (.int k b); binOp .mul t (.int k a) (.int k b)) K f L p = K (put n f d (.c (.v (.int k (k.wrap (a * b)))))) L p :=
  dPure_of (fun w => by rw [run_eqGuard rfl]; simp [binOp, Op.intArith]) trivial
theorem pu_lss : dPure P n d (do eqGuard .lss t x y (.int k a) (.int k b); binOp .lss t (.int k a) (.int k b)) K f L p = K (put n f d (.c (.v (.bool (decide (a < b)))))) L p :=
  dPure_of (fun w => by rw [run_eqGuard rfl]; simp [binOp, Op.intCmp]) trivial
theorem pu_leq : dPure P n d (do eqGuard .leq t x y (.int k a) (.int k b); binOp .leq t (.int k a) (.int k b)) K f L p = K (put n f d (.c (.v (.bool (decide (a ≤ b)))))) L p :=
  dPure_of (fun w => by rw [run_eqGuard rfl]; simp [binOp, Op.intCmp]) trivial
theorem pu_gtr : dPure P n d (do eqGuard .gtr t x y (.int k a) (.int k b); binOp .gtr t (.int k a) (.int k b)) K f L p = K (put n f d (.c (.v (.bool (decide (b < a)))))) L p :=
  dPure_of (fun w => by rw [run_eqGuard rfl]; simp [binOp, Op.intCmp]) trivial
theorem pu_geq : dPure P n d (do eqGuard .geq t x y (.int k a) (.int k b); binOp .geq t (.int k a) (.int k b)) K f L p = K (put n f d (.c (.v (.bool (decide (b ≤ a)))))) L p :=
  dPure_of (fun w => by rw [run_eqGuard rfl]; simp [binOp, Op.intCmp]) trivial
theorem pu_eql : dPure P n d (do eqGuard .eql t x y (.int k a) (.int k b); binOp .eql t (.int k a) (.int k b)) K f L p = K (put n f d (.c (.v (.bool (decide (a = b)))))) L p :=
  dPure_of (fun w => by rw [run_eqGuard rfl]; simp [binOp, Op.intCmp]; rfl) trivial
theorem pu_neq : dPure P n d (do eqGuard .neq t x y (.int k a) (.int k b); binOp .neq t (.int k a) (.int k b)) K f L p = K (put n f d (.c (.v (.bool (!decide (a = b)))))) L p :=
  dPure_of (fun w => by rw [run_eqGuard rfl]; simp [binOp, Op.intCmp]; rfl) trivial
theorem pu_seql : dPure P n d (do eqGuard .eql t x y (.string u) (.string v); binOp .eql t (.string u) (.string v)) K f L p = K (put n f d (.c (.v (.bool (decide (u = v)))))) L p :=
  dPure_of (fun w => by rw [run_eqGuard rfl]; simp [binOp, Op.stringOp, bytes_eq]) trivial
theorem pu_sneq : dPure P n d (do eqGuard .neq t x y (.string u) (.string v); binOp .neq t (.string u) (.string v)) K f L p = K (put n f d (.c (.v (.bool (!decide (u = v)))))) L p :=
  dPure_of (fun w => by rw [run_eqGuard rfl]; simp [binOp, Op.stringOp, bytes_eq]) trivial
theorem pu_slss : dPure P n d (do eqGuard .lss t x y (.string u) (.string v); binOp .lss t (.string u) (.string v)) K f L p = K (put n f d (.c (.v (.bool (Op.bytesLess u.toList v.toList))))) L p :=
  dPure_of (fun w => by rw [run_eqGuard rfl]; simp [binOp, Op.stringOp]) trivial
theorem pu_sgtr : dPure P n d (do eqGuard .gtr t x y (.string u) (.string v); binOp .gtr t (.string u) (.string v)) K f L p = K (put n f d (.c (.v (.bool (!(Op.bytesLess u.toList v.toList || decide (u = v))))))) L p :=
  dPure_of (fun w => by rw [run_eqGuard rfl]; simp [binOp, Op.stringOp, bytes_eq]) trivial
theorem pu_sadd (h : u.size + v.size ≤ 9223372036854775807) : dPure P n d (do eqGuard .add t x y (.string u) (.string v); binOp .add t (.string u) (.string v)) K f L p = K (put n f d (.c (.v (.string (u ++ v))))) L p :=
  dPure_of (fun w => by rw [run_eqGuard rfl]; have : ¬ (9223372036854775807 < (u.size : Int) + (v.size : Int)) := by omega
                        simp [binOp, Op.stringOp, IntKind.max, IntKind.bits, IntKind.signed]; omega) (by show (u ++ v).size ≤ maxLen; rw [ByteArray.size_append]; simp only [maxLen]; omega)
theorem pu_beql (h : P.underlying t = some .bool) : dPure P n d (do eqGuard .eql t x y (.bool i) (.bool j); binOp .eql t (.bool i) (.bool j)) K f L p = K (put n f d (.c (.v (.bool (i == j))))) L p :=
  dPure_of (fun w => by rw [run_eqGuard rfl]; exact run_eql_bool w t i j h) trivial
theorem pu_bneq (h : P.underlying t = some .bool) : dPure P n d (do eqGuard .neq t x y (.bool i) (.bool j); binOp .neq t (.bool i) (.bool j)) K f L p = K (put n f d (.c (.v (.bool (!(i == j)))))) L p :=
  dPure_of (fun w => by rw [run_eqGuard rfl]; exact run_neq_bool w t i j h) trivial
theorem pu_not : dPure P n d (Op.unary .not (.bool i)) K f L p = K (put n f d (.c (.v (.bool (!i))))) L p := dPure_of (fun w => by simp [Op.unary]) trivial
theorem pu_neg : dPure P n d (Op.unary .neg (.int k a)) K f L p = K (put n f d (.c (.v (.int k (k.wrap (-a)))))) L p := dPure_of (fun w => by simp [Op.unary, Op.intArith]) trivial
theorem pu_rem (h : b ≠ 0) : dPure P n d (do eqGuard .rem t x y (.int k a) (.int k b); binOp .rem t (.int k a) (.int k b)) K f L p = K (put n f d (.c (.v (.int k (a.tmod b))))) L p :=
  dPure_of (fun w => by rw [run_eqGuard rfl]; simp [binOp, Op.intDiv, h]) trivial
theorem pu_quo (h : b ≠ 0) : dPure P n d (do eqGuard .quo t x y (.int k a) (.int k b); binOp .quo t (.int k a) (.int k b)) K f L p = K (put n f d (.c (.v (.int k (k.wrap (a.tdiv b)))))) L p :=
  dPure_of (fun w => by rw [run_eqGuard rfl]; simp [binOp, Op.intDiv, h]) trivial
theorem pu_shr (h : 0 ≤ b) : dPure P n d (do eqGuard .shr t x y (.int k a) (.int yk b); binOp .shr t (.int k a) (.int yk b)) K f L p = K (put n f d (.c (.v (.int k (shrI k a b))))) L p :=
  dPure_of (fun w => by rw [run_eqGuard rfl]; have : ¬ b < 0 := by omega
                        simp [binOp, Op.shift, this, shrI]) trivial
theorem pu_xor : dPure P n d (do eqGuard .xor t x y (.int k a) (.int k b); binOp .xor t (.int k a) (.int k b)) K f L p = K (put n f d (.c (.v (.int k (xorI k a b))))) L p :=
  dPure_of (fun w => by rw [run_eqGuard rfl]; simp [binOp, Op.intBits, xorI]) trivial
theorem pu_and : dPure P n d (do eqGuard .and t x y (.int k a) (.int k b); binOp .and t (.int k a) (.int k b)) K f L p = K (put n f d (.c (.v (.int k (andI k a b))))) L p :=
  dPure_of (fun w => by rw [run_eqGuard rfl]; simp [binOp, Op.intBits, andI]) trivial
theorem pu_cint (hs : (P.underlying s).isSome = true) (hd : P.underlying t = some (.int (P.intKind t))) : dPure P n d (convert s t (.int k a)) K f L p = K (put n f d (.c (.v (.int (P.intKind t) ((P.intKind t).wrap a))))) L p :=
  dPure_of (fun w => run_convert_int w s t k a hs hd) trivial
theorem pu_index (h : P.underlying t = some .string) (h0 : 0 ≤ a) (h1 : a < u.size) : dPure P n d (Instr.index t (.string u) (.int k a)) K f L p = K (put n f d (.c (.v (.int .u8 (u[a.toNat]'(by omega)).toNat)))) L p :=
  dPure_of (fun w => by
    have hlt : a.toNat < u.size := by omega
    have e : u[a.toNat]? = some (u[a.toNat]'hlt) := getElem?_pos u a.toNat hlt
    simp [Instr.index, asIntOf, run_underlying h, h0, e]) trivial
theorem okV_extract (h : okV (.string u)) (i j : Nat) : okV (.string (u.extract i j)) := by
  have h : u.size ≤ maxLen := h
  show (u.extract i j).size ≤ maxLen
  rw [ByteArray.size_extract]; omega
theorem pu_cut (h : P.underlying t = some .string) (hu : okV (.string u)) (h0 : 0 ≤ a) (h1 : a ≤ b) (h2 : b ≤ u.size) : dPure P n d (Instr.sliceAt t (.string u) (some (.int k a)) (some (.int yk b)) none) K f L p = K (put n f d (.c (.v (.string (u.extract a.toNat b.toNat))))) L p :=
  dPure_of (fun w => by rw [run_sliceAt_string w t _ _ _ _ h]; exact run_slice_string w t u k yk a b h h0 h1 h2) (okV_extract hu _ _)
theorem pu_from (h : P.underlying t = some .string) (hu : okV (.string u)) (h0 : 0 ≤ a) (h2 : a ≤ u.size) : dPure P n d (Instr.sliceAt t (.string u) (some (.int k a)) none none) K f L p = K (put n f d (.c (.v (.string (u.extract a.toNat u.size))))) L p :=
  dPure_of (fun w => by rw [run_sliceAt_string w t _ _ _ _ h, run_slice_string_from_if w t u k a h, if_pos ⟨h0, h2⟩]) (okV_extract hu _ _)
theorem pu_to (h : P.underlying t = some .string) (hu : okV (.string u)) (h0 : 0 ≤ b) (h2 : b ≤ u.size) : dPure P n d (Instr.sliceAt t (.string u) none (some (.int k b)) none) K f L p = K (put n f d (.c (.v (.string (u.extract 0 b.toNat))))) L p :=
  dPure_of (fun w => by rw [run_sliceAt_string w t _ _ _ _ h, run_slice_string_to_if w t u k b h, if_pos ⟨h0, h2⟩]) (okV_extract hu _ _)
theorem pu_eqagg {xs ys : Array Value} {c : Bool} (hm : P.eqGuardType P.depth t = false)
    (h : ∀ w, (Op.equalIn 10000 t (.agg xs) (.agg ys)).run P w = .ok c w) : dPure P n d (do eqGuard .eql t x y (.agg xs) (.agg ys); binOp .eql t (.agg xs) (.agg ys)) K f L p = K (put n f d (.c (.v (.bool c)))) L p :=
  dPure_of (fun w => by simp only [Sem.run_bind, run_eqGuard_agg w _ _ _ _ _ _ hm, Result.andThen_ok, run_eql_struct, h]) trivial
theorem pu_neagg {xs ys : Array Value} {c : Bool} (hm : P.eqGuardType P.depth t = false)
    (h : ∀ w, (Op.equalIn 10000 t (.agg xs) (.agg ys)).run P w = .ok c w) : dPure P n d (do eqGuard .neq t x y (.agg xs) (.agg ys); binOp .neq t (.agg xs) (.agg ys)) K f L p = K (put n f d (.c (.v (.bool (!c))))) L p :=
  dPure_of (fun w => by simp only [Sem.run_bind, run_eqGuard_agg w _ _ _ _ _ _ hm, Result.andThen_ok, run_neq_struct, h]) trivial
end

/-- A plan without branches: 2i, the i-th operation looks and is taken early; 2i+1, it is next. -/
def pln : List Nat → Plan
  | [] => .done
  | x :: r => if x % 2 = 0 then .take (x / 2) (pln r) else .br (x / 2) (pln r) .nobr
end Go.Dv

namespace Go.Dv
open Go
open Go.Vc (D guardSlot Plan inX)
section
variable (P : Program) (n : Nat) (K : KE) (f g : Rg) (L : Ob) (p : Po)
theorem a0 : d P n .skip K f L p = K .normal f L p := rfl
theorem a1 (l : Nat) : d P n (.label l) K f L p = K .normal f L p := rfl
theorem a2 (id : Nat) (ops : Array Oper) : d P n (.region id ops false) K f L p = dl P n ops (K .normal) ops.toList f L p := rfl
theorem a3 (x y : Code) : d P n (.seq x y) K f L p = d P n x (fun e => match e with | .normal => d P n y K | e => K e) f L p := rfl
theorem a4 (c : Operand) (x y : Code) : d P n (.cond c x y) K f L p = match ev f c with | .c (.v (.bool t)) => (t = true → d P n x K f L p) ∧ (t = false → d P n y K f L p) | _ => False := rfl
theorem a5 (id : Nat) (c : Code) : d P n (.block id c) K f L p = d P n c (fun e => match e with | .exit id' => if id' = id then K .normal else K (.exit id') | e => K e) f L p := rfl
theorem a6 (c : Code) : d P n (.loop c) K f L p = dLoop (Go.Vc.dsts c) (d P n c) K f L p := rfl
theorem a7 (id : Nat) : d P n (.exit id) K f L p = K (.exit id) f L p := rfl
theorem a8 : d P n .ret K f L p = K .ret f L p := rfl
theorem a9 (ops : Array Oper) (Q : K0) : dl P n ops Q [] f L p = Q f L p := rfl
theorem a10 (ops : Array Oper) (Q : K0) (dst : Option Nat) (op : Op) (ty : TypeId) (pos : String) (af : Array Edge) (gd : Option (Nat × Bool)) (r : List Oper) : dl P n ops Q (⟨dst, op, ty, pos, af, gd⟩ :: r) f L p = dGuard n ops ⟨dst, op, ty, pos, af, gd⟩ (dOpF (CallK P) P n ⟨dst, op, ty, pos, af, gd⟩) (dl P n ops Q r) f L p := rfl
theorem a12 (s : Nat) (v : S) (t : Nat) : upd f s v t = if t = s then v else f t := rfl
theorem a13 (ws : List Nat) (s : Nat) : mixR ws f g s = if Go.Vc.inN ws s = true then g s else kS ws [] (f s) := rfl
theorem a14 (ds is : List Nat) (s : Nat) : kR ds is f s = kS ds is (f s) := rfl
theorem a15 (i m : Nat) (x : C) (s : Nat) : fR i m x f s = fS i m x (f s) := rfl
theorem a16 (i j s : Nat) : renR i j f s = renS i j (f s) := rfl
theorem a17 (s : Nat) : regs0 [] s = .tu [] := rfl
theorem a18 (v : S) (vs : List S) : regs0 (v :: vs) 0 = v := rfl
theorem a19 (v : S) (vs : List S) (s : Nat) : regs0 (v :: vs) (s + 1) = regs0 vs s := rfl
theorem a20 (rs : List ResultVar) (k : Nat) (R : S → List (List C) → Prop) : endK P rs k R .normal f L p = dRet P rs k R f L p := rfl
theorem a21 (rs : List ResultVar) (k : Nat) (R : S → List (List C) → Prop) : endK P rs k R .ret f L p = dRet P rs k R f L p := rfl
theorem a20n (rs : List ResultVar) (R : List C → Prop) : endKN P rs R .normal f L p = dRetN P rs R f L p := rfl
theorem a21n (rs : List ResultVar) (R : List C → Prop) : endKN P rs R .ret f L p = dRetN P rs R f L p := rfl
theorem a22 (id : Nat) (ops : Array Oper) : d P n (.region id ops true) K f L p = dDrawn P n ops (K .normal) f L p := rfl
theorem a23 (ops : Array Oper) (xs : List Nat) (Q : K0) : dPlan P n ops xs Q .done f L p = Q f L p := rfl
theorem a24 (ops : Array Oper) (xs : List Nat) (Q : K0) : dPlan P n ops xs Q .nobr f L p = True := rfl
theorem a25 (ops : Array Oper) (xs : List Nat) (Q : K0) (i : Nat) (r : Plan) : dPlan P n ops xs Q (.take i r) f L p = match ops.toList[i]? with
    | some o => dGuard n ops o (dOp (CallK P) P n o) (dPlan P n ops xs Q r) f L p
    | none => False := by rw [Array.getElem?_toList, dPlan] <;> rfl
theorem a26 (ops : Array Oper) (xs : List Nat) (Q : K0) (i : Nat) (r q : Plan) : dPlan P n ops xs Q (.br i r q) f L p = ((match ops.toList[i]? with
    | some o => dGuard n ops o (dOpF (CallQ (!inX xs o) P) P n o) (dPlan P n ops xs Q r) f L p
    | none => False) ∧ dPlan P n ops xs Q q f L p) := by rw [Array.getElem?_toList, dPlan] <;> rfl
theorem a27 (ops : Array Oper) (T : K0 → K0) (Q : K0) (dst : Option Nat) (op : Op) (ty : TypeId) (pos : String) (af : Array Edge) : dGuard n ops ⟨dst, op, ty, pos, af, none⟩ T Q f L p = T Q f L p := rfl
theorem a28 (ops : Array Oper) (T : K0 → K0) (Q : K0) (dst : Option Nat) (op : Op) (ty : TypeId) (pos : String) (af : Array Edge) (j : Nat) : dGuard n ops ⟨dst, op, ty, pos, af, some (j, true)⟩ T Q f L p =
    match guardSlot ops j with
      | none => False
      | some g => match f g with
        | .c (.v (.bool b)) => Gd b (T Q) (upd f g (.c (.v (.bool true)))) Q (put n (upd f g (.c (.v (.bool false)))) dst (.tu [])) L p
        | .tu [] => Q (put n f dst (.tu [])) L p
        | _ => False := rfl
theorem a31 (ops : Array Oper) (T : K0 → K0) (Q : K0) (dst : Option Nat) (op : Op) (ty : TypeId) (pos : String) (af : Array Edge) (j : Nat) : dGuard n ops ⟨dst, op, ty, pos, af, some (j, false)⟩ T Q f L p =
    match guardSlot ops j with
      | none => False
      | some g => match f g with
        | .c (.v (.bool b)) => Gd b Q (put n (upd f g (.c (.v (.bool true)))) dst (.tu [])) (T Q) (upd f g (.c (.v (.bool false)))) L p
        | .tu [] => Q (put n f dst (.tu [])) L p
        | _ => False := by
  rw [dGuard]; simp only [Bool.not_false]
  cases guardSlot ops j with
  | none => rfl
  | some g => cases h : f g with
    | ag _ => simp [h]
    | tu xs => cases xs <;> simp [h]
    | c x => cases x with
      | v y => cases y <;> simp [h, Gd, And.comm]
      | _ => simp [h]
theorem a32 (KA : K0) (fA : Rg) (KB : K0) (fB : Rg) : Gd true KA fA KB fB L p = KA fA L p := by simp [Gd]
theorem a33 (KA : K0) (fA : Rg) (KB : K0) (fB : Rg) : Gd false KA fA KB fB L p = KB fB L p := by simp [Gd]
theorem a29 (ops : Array Oper) (j : Nat) : guardSlot ops j = (ops.toList[j]?).bind (·.dst) := by rw [guardSlot, Array.getElem?_toList]
-- cells
theorem c0 (k : IntKind) (x : Int) : dOf (.v (.int k x)) = some (.lit (.int k x), some []) := rfl
theorem c1 (x : Bool) : dOf (.v (.bool x)) = some (.lit (.bool x), some []) := rfl
theorem c2 (x : ByteArray) : dOf (.v (.string x)) = some (.lit (.string x), some []) := rfl
theorem c3 : dOf (.v (.slice none 0 0)) = some (.sl 0 [], some []) := rfl
theorem c4 (m : Nat) (ds : List D) (F : Fp) : dOf (.sl m ds F) = some (.sl m ds, F) := rfl
theorem c5 (x : Value) : cellsOf? (.c (.v x)) = some [.v x] := rfl
theorem c6 (m : Nat) (ds : List D) (F : Fp) : cellsOf? (.c (.sl m ds F)) = some [.sl m ds F] := rfl
theorem c7 (i m : Nat) : cellsOf? (.c (.s i m)) = some [.s i m] := rfl
theorem c8 (i m : Nat) : cellsOf? (.c (.p i m)) = some [.p i m] := rfl
theorem c9 (h : FuncId) (a b : List Nat) : cellsOf? (.c (.fn h a b)) = some [.fn h a b] := rfl
theorem c10 (cs : List C) : cellsOf? (.ag cs) = some cs := rfl
theorem c11 (ds : List D) : cellsOf? (.c (.q ds)) = some [.q ds] := rfl
-- data as cells
theorem e0 (ds is : List Nat) : ∀ l : List D, kCs ds is (csOf l) = csOf l
  | [] => rfl
  | x :: r => by cases x <;> simp [csOf, cOf, kCs, kC, e0 ds is r]
theorem e1 (i m : Nat) (x : C) : ∀ l : List D, fCs i m x (csOf l) = csOf l
  | [] => rfl
  | y :: r => by cases y <;> simp [csOf, cOf, fCs, fC, e1 i m x r]
theorem e2 (i j : Nat) : ∀ l : List D, renCs i j (csOf l) = csOf l
  | [] => rfl
  | y :: r => by cases y <;> simp [csOf, cOf, renCs, renC, e2 i j r]
theorem e3 : ∀ l : List D, ownsC (csOf l) = none
  | [] => rfl
  | y :: r => by cases y <;> simp [csOf, cOf, ownsC, e3 r]
theorem e4 : ∀ (b : Nat) (l : List D), expC b (csOf l) = csOf l
  | _, [] => rfl
  | b, y :: r => by cases y <;> simp [csOf, cOf, expC, e4 _ r]
theorem e5 : ∀ (b : Nat) (l : List D), expO b (csOf l) = []
  | _, [] => rfl
  | b, y :: r => by cases y <;> simp [csOf, cOf, expO, e5 _ r]
theorem e6 : ∀ (l m : List D), rhoL (csOf l) (csOf m) = []
  | [], _ => by simp [csOf, rhoL]
  | x :: r, [] => by simp [csOf, rhoL]
  | x :: r, y :: t => by cases x <;> cases y <;> simp [csOf, cOf, rhoL, rhoC, e6 r t]
theorem e7 : ∀ (l m : List D), brwL (csOf l) (csOf m) = []
  | [], _ => by simp [csOf, brwL]
  | x :: r, [] => by simp [csOf, brwL]
  | x :: r, y :: t => by cases x <;> cases y <;> simp [csOf, cOf, brwL, brwC, e7 r t]
theorem e8 : ∀ l : List D, flatL (csOf l) = true
  | [] => rfl
  | y :: r => by cases y <;> simp [csOf, cOf, flatL, flatC, e8 r]
theorem e9 : ∀ l : List D, fpL (csOf l) = []
  | [] => rfl
  | y :: r => by cases y <;> simp [csOf, cOf, fpL, fpC, e9 r]
theorem e10 : ∀ l : List D, (csOf l).length = l.length
  | [] => rfl
  | y :: r => by simp [csOf, e10 r]
theorem e11 (ρ : List (Nat × Nat)) : ∀ l : List D, leL ρ L (csOf l) (csOf l) = True
  | [] => by simp [csOf, leL]
  | x :: r => by
    cases x with
    | lit v => simp only [csOf, cOf, leL, e11 ρ r, and_true]; cases v <;> simp [leC]
    | sl m ds => simp [csOf, cOf, leL, leC, e11 ρ r]
theorem good_cOf (x : D) : goodC (cOf x) = true := by cases x <;> rfl
theorem e12 : ∀ l : List D, (csOf l).all goodC = true
  | [] => rfl
  | y :: r => by simp only [csOf, List.all_cons, good_cOf, e12 r, Bool.and_self]
/-- Whether data have slices. -/
def fpD : List D → Fp
  | [] => some []
  | .lit _ :: r => fpD r
  | .sl .. :: _ => none
end
end Go.Dv

namespace Go.Dv
open Go
open Go.Vc (D TS sizeTS splice dstsOps dsts inX zeroOk inN tyS elemS fieldOff zeroC placesS lenK convBS guardSlot Plan okV shrI xorI andI)
theorem z0 : (∀ (P : Program) (n : Nat) (K : KE) (f : Rg) (L : Ob) (p : Po), d P n Code.skip K f L p = K Exit.normal f L p) ∧
  (∀ (P : Program) (n : Nat) (K : KE) (f : Rg) (L : Ob) (p : Po) (l : Nat),
  d P n (Code.label l) K f L p = K Exit.normal f L p) ∧
  (∀ (P : Program) (n : Nat) (K : KE) (f : Rg) (L : Ob) (p : Po) (id : Nat) (ops : Array Oper),
  d P n (Code.region id ops false) K f L p = dl P n ops (K Exit.normal) (Array.toList ops) f L p) ∧
  (∀ (P : Program) (n : Nat) (K : KE) (f : Rg) (L : Ob) (p : Po) (x y : Code),
  d P n (Code.seq x y) K f L p =
    d P n x
      (fun e =>
        match e with
        | Exit.normal => d P n y K
        | e => K e)
      f L p) ∧
  (∀ (P : Program) (n : Nat) (K : KE) (f : Rg) (L : Ob) (p : Po) (c : Operand) (x y : Code),
  d P n (Code.cond c x y) K f L p =
    match ev f c with
    | S.c (C.v (Value.bool t)) => (t = true → d P n x K f L p) ∧ (t = false → d P n y K f L p)
    | x => False) ∧
  (∀ (P : Program) (n : Nat) (K : KE) (f : Rg) (L : Ob) (p : Po) (id : Nat) (c : Code),
  d P n (Code.block id c) K f L p =
    d P n c
      (fun e =>
        match e with
        | Exit.exit id' => if id' = id then K Exit.normal else K (Exit.exit id')
        | e => K e)
      f L p) ∧
  (∀ (P : Program) (n : Nat) (K : KE) (f : Rg) (L : Ob) (p : Po) (c : Code),
  d P n (Code.loop c) K f L p = dLoop (dsts c) (d P n c) K f L p) ∧
  (∀ (P : Program) (n : Nat) (K : KE) (f : Rg) (L : Ob) (p : Po) (id : Nat),
  d P n (Code.exit id) K f L p = K (Exit.exit id) f L p) ∧
  (∀ (P : Program) (n : Nat) (K : KE) (f : Rg) (L : Ob) (p : Po), d P n Code.ret K f L p = K Exit.ret f L p) ∧
  (∀ (P : Program) (n : Nat) (f : Rg) (L : Ob) (p : Po) (ops : Array Oper) (Q : K0), dl P n ops Q [] f L p = Q f L p) ∧
  (∀ (P : Program) (n : Nat) (f : Rg) (L : Ob) (p : Po) (ops : Array Oper) (Q : K0) (dst : Option Nat) (op : Op)
  (ty : TypeId) (pos : String) (af : Array Edge) (gd : Option (Nat × Bool)) (r : List Oper),
  dl P n ops Q ({ dst := dst, op := op, type := ty, pos := pos, after := af, guard := gd } :: r) f L p =
    dGuard n ops { dst := dst, op := op, type := ty, pos := pos, after := af, guard := gd }
      (dOpF (CallK P) P n { dst := dst, op := op, type := ty, pos := pos, after := af, guard := gd }) (dl P n ops Q r) f
      L p) ∧
  (∀ (f : Rg) (s : Nat) (v : S) (t : Nat), upd f s v t = if t = s then v else f t) ∧
  (∀ (f g : Rg) (ws : List Nat) (s : Nat), mixR ws f g s = if inN ws s = true then g s else kS ws [] (f s)) ∧
  (∀ (f : Rg) (ds is : List Nat) (s : Nat), kR ds is f s = kS ds is (f s)) ∧
  (∀ (f : Rg) (i m : Nat) (x : C) (s : Nat), fR i m x f s = fS i m x (f s)) ∧
  (∀ (f : Rg) (i j s : Nat), renR i j f s = renS i j (f s)) ∧
  (∀ (s : Nat), regs0 [] s = S.tu []) ∧
  (∀ (v : S) (vs : List S), regs0 (v :: vs) 0 = v) ∧
  (∀ (v : S) (vs : List S) (s : Nat), regs0 (v :: vs) (s + 1) = regs0 vs s) ∧
  (∀ (P : Program) (f : Rg) (L : Ob) (p : Po) (rs : List ResultVar) (k : Nat) (R : S → List (List C) → Prop),
  endK P rs k R Exit.normal f L p = dRet P rs k R f L p) ∧
  (∀ (P : Program) (f : Rg) (L : Ob) (p : Po) (rs : List ResultVar) (k : Nat) (R : S → List (List C) → Prop),
  endK P rs k R Exit.ret f L p = dRet P rs k R f L p) ∧
  (∀ (P : Program) (f : Rg) (L : Ob) (p : Po) (rs : List ResultVar) (R : List C → Prop),
  endKN P rs R Exit.normal f L p = dRetN P rs R f L p) ∧
  (∀ (P : Program) (f : Rg) (L : Ob) (p : Po) (rs : List ResultVar) (R : List C → Prop),
  endKN P rs R Exit.ret f L p = dRetN P rs R f L p) ∧
  (∀ (P : Program) (n : Nat) (K : KE) (f : Rg) (L : Ob) (p : Po) (id : Nat) (ops : Array Oper),
  d P n (Code.region id ops true) K f L p = dDrawn P n ops (K Exit.normal) f L p) :=
  ⟨@a0, @a1, @a2, @a3, @a4, @a5, @a6, @a7, @a8, @a9, @a10, @a12, @a13, @a14, @a15, @a16, @a17, @a18, @a19, @a20, @a21, @a20n, @a21n, @a22⟩
theorem z1 : (∀ (P : Program) (n : Nat) (f : Rg) (L : Ob) (p : Po) (ops : Array Oper) (xs : List Nat) (Q : K0),
  dPlan P n ops xs Q Plan.done f L p = Q f L p) ∧
  (∀ (P : Program) (n : Nat) (f : Rg) (L : Ob) (p : Po) (ops : Array Oper) (xs : List Nat) (Q : K0),
  dPlan P n ops xs Q Plan.nobr f L p = True) ∧
  (∀ (P : Program) (n : Nat) (f : Rg) (L : Ob) (p : Po) (ops : Array Oper) (xs : List Nat) (Q : K0) (i : Nat)
  (r : Plan),
  dPlan P n ops xs Q (Plan.take i r) f L p =
    match (Array.toList ops)[i]? with
    | some o => dGuard n ops o (dOp (CallK P) P n o) (dPlan P n ops xs Q r) f L p
    | none => False) ∧
  (∀ (P : Program) (n : Nat) (f : Rg) (L : Ob) (p : Po) (ops : Array Oper) (xs : List Nat) (Q : K0) (i : Nat)
  (r q : Plan),
  dPlan P n ops xs Q (Plan.br i r q) f L p =
    ((match (Array.toList ops)[i]? with
      | some o => dGuard n ops o (dOpF (CallQ (!inX xs o) P) P n o) (dPlan P n ops xs Q r) f L p
      | none => False) ∧
      dPlan P n ops xs Q q f L p)) ∧
  (∀ (n : Nat) (f : Rg) (L : Ob) (p : Po) (ops : Array Oper) (T : K0 → K0) (Q : K0) (dst : Option Nat) (op : Op)
  (ty : TypeId) (pos : String) (af : Array Edge),
  dGuard n ops { dst := dst, op := op, type := ty, pos := pos, after := af, guard := none } T Q f L p = T Q f L p) ∧
  (∀ (n : Nat) (f : Rg) (L : Ob) (p : Po) (ops : Array Oper) (T : K0 → K0) (Q : K0) (dst : Option Nat) (op : Op)
  (ty : TypeId) (pos : String) (af : Array Edge) (j : Nat),
  dGuard n ops { dst := dst, op := op, type := ty, pos := pos, after := af, guard := some (j, true) } T Q f L p =
    match guardSlot ops j with
    | none => False
    | some g =>
      match f g with
      | S.c (C.v (Value.bool b)) =>
        Gd b (T Q) (upd f g (S.c (C.v (Value.bool true)))) Q
          (put n (upd f g (S.c (C.v (Value.bool false)))) dst (S.tu [])) L p
      | S.tu [] => Q (put n f dst (S.tu [])) L p
      | x => False) ∧
  (∀ (n : Nat) (f : Rg) (L : Ob) (p : Po) (ops : Array Oper) (T : K0 → K0) (Q : K0) (dst : Option Nat) (op : Op)
  (ty : TypeId) (pos : String) (af : Array Edge) (j : Nat),
  dGuard n ops { dst := dst, op := op, type := ty, pos := pos, after := af, guard := some (j, false) } T Q f L p =
    match guardSlot ops j with
    | none => False
    | some g =>
      match f g with
      | S.c (C.v (Value.bool b)) =>
        Gd b Q (put n (upd f g (S.c (C.v (Value.bool true)))) dst (S.tu [])) (T Q)
          (upd f g (S.c (C.v (Value.bool false)))) L p
      | S.tu [] => Q (put n f dst (S.tu [])) L p
      | x => False) ∧
  (∀ (L : Ob) (p : Po) (KA : K0) (fA : Rg) (KB : K0) (fB : Rg), Gd true KA fA KB fB L p = KA fA L p) ∧
  (∀ (L : Ob) (p : Po) (KA : K0) (fA : Rg) (KB : K0) (fB : Rg), Gd false KA fA KB fB L p = KB fB L p) ∧
  (∀ (ops : Array Oper) (j : Nat), guardSlot ops j = Option.bind (Array.toList ops)[j]? fun x => Oper.dst x) ∧
  (∀ (k : IntKind) (x : Int), dOf (C.v (Value.int k x)) = some (D.lit (Value.int k x), some [])) ∧
  (∀ (x : Bool), dOf (C.v (Value.bool x)) = some (D.lit (Value.bool x), some [])) ∧
  (∀ (x : ByteArray), dOf (C.v (Value.string x)) = some (D.lit (Value.string x), some [])) ∧
  (dOf (C.v (Value.slice none 0 0)) = some (D.sl 0 [], some [])) ∧
  (∀ (m : Nat) (ds : List D) (F : Fp), dOf (C.sl m ds F) = some (D.sl m ds, F)) ∧
  (∀ (x : Value), cellsOf? (S.c (C.v x)) = some [C.v x]) ∧
  (∀ (m : Nat) (ds : List D) (F : Fp), cellsOf? (S.c (C.sl m ds F)) = some [C.sl m ds F]) ∧
  (∀ (i m : Nat), cellsOf? (S.c (C.s i m)) = some [C.s i m]) ∧
  (∀ (i m : Nat), cellsOf? (S.c (C.p i m)) = some [C.p i m]) ∧
  (∀ (h : FuncId) (a b : List Nat), cellsOf? (S.c (C.fn h a b)) = some [C.fn h a b]) ∧
  (∀ (cs : List C), cellsOf? (S.ag cs) = some cs) ∧
  (∀ (ds : List D), cellsOf? (S.c (C.q ds)) = some [C.q ds]) ∧
  (∀ (ds is : List Nat) (l : List D), kCs ds is (csOf l) = csOf l) ∧
  (∀ (i m : Nat) (x : C) (l : List D), fCs i m x (csOf l) = csOf l) :=
  ⟨@a23, @a24, @a25, @a26, @a27, @a28, @a31, @a32, @a33, @a29, @c0, @c1, @c2, @c3, @c4, @c5, @c6, @c7, @c8, @c9, @c10, @c11, @e0, @e1⟩
theorem z2 : (∀ (i j : Nat) (l : List D), renCs i j (csOf l) = csOf l) ∧
  (∀ (l : List D), ownsC (csOf l) = none) ∧
  (∀ (b : Nat) (l : List D), expC b (csOf l) = csOf l) ∧
  (∀ (b : Nat) (l : List D), expO b (csOf l) = []) ∧
  (∀ (l m : List D), rhoL (csOf l) (csOf m) = []) ∧
  (∀ (l m : List D), brwL (csOf l) (csOf m) = []) ∧
  (∀ (l : List D), flatL (csOf l) = true) ∧
  (∀ (l : List D), fpL (csOf l) = []) ∧
  (∀ (l : List D), List.length (csOf l) = List.length l) ∧
  (∀ (L : Ob) (ρ : List (Nat × Nat)) (l : List D), leL ρ L (csOf l) (csOf l) = True) ∧
  (∀ (l : List D), List.all (csOf l) goodC = true) ∧
  (∀ {P : Program} {n : Nat} {d : Option Nat} {K : K0} {f : Rg} {L : Ob} {p : Po} {t : TypeId} {x y : Operand}
  {k : IntKind} {a b : Int},
  dPure P n d
      (do
        eqGuard BinOp.add t x y (Value.int k a) (Value.int k b)
        binOp BinOp.add t (Value.int k a) (Value.int k b))
      K f L p =
    K (put n f d (S.c (C.v (Value.int k (IntKind.wrap k (a + b)))))) L p) ∧
  (∀ {P : Program} {n : Nat} {d : Option Nat} {K : K0} {f : Rg} {L : Ob} {p : Po} {t : TypeId} {x y : Operand}
  {k : IntKind} {a b : Int},
  dPure P n d
      (do
        eqGuard BinOp.sub t x y (Value.int k a) (Value.int k b)
        binOp BinOp.sub t (Value.int k a) (Value.int k b))
      K f L p =
    K (put n f d (S.c (C.v (Value.int k (IntKind.wrap k (a - b)))))) L p) ∧
  (∀ {P : Program} {n : Nat} {d : Option Nat} {K : K0} {f : Rg} {L : Ob} {p : Po} {t : TypeId} {x y : Operand}
  {k : IntKind} {a b : Int},
  dPure P n d
      (do
        eqGuard BinOp.mul t x y (Value.int k a) (Value.int k b)
        binOp BinOp.mul t (Value.int k a) (Value.int k b))
      K f L p =
    K (put n f d (S.c (C.v (Value.int k (IntKind.wrap k (a * b)))))) L p) ∧
  (∀ {P : Program} {n : Nat} {d : Option Nat} {K : K0} {f : Rg} {L : Ob} {p : Po} {t : TypeId} {x y : Operand}
  {k : IntKind} {a b : Int},
  dPure P n d
      (do
        eqGuard BinOp.lss t x y (Value.int k a) (Value.int k b)
        binOp BinOp.lss t (Value.int k a) (Value.int k b))
      K f L p =
    K (put n f d (S.c (C.v (Value.bool (decide (a < b)))))) L p) ∧
  (∀ {P : Program} {n : Nat} {d : Option Nat} {K : K0} {f : Rg} {L : Ob} {p : Po} {t : TypeId} {x y : Operand}
  {k : IntKind} {a b : Int},
  dPure P n d
      (do
        eqGuard BinOp.leq t x y (Value.int k a) (Value.int k b)
        binOp BinOp.leq t (Value.int k a) (Value.int k b))
      K f L p =
    K (put n f d (S.c (C.v (Value.bool (decide (a ≤ b)))))) L p) ∧
  (∀ {P : Program} {n : Nat} {d : Option Nat} {K : K0} {f : Rg} {L : Ob} {p : Po} {t : TypeId} {x y : Operand}
  {k : IntKind} {a b : Int},
  dPure P n d
      (do
        eqGuard BinOp.gtr t x y (Value.int k a) (Value.int k b)
        binOp BinOp.gtr t (Value.int k a) (Value.int k b))
      K f L p =
    K (put n f d (S.c (C.v (Value.bool (decide (b < a)))))) L p) ∧
  (∀ {P : Program} {n : Nat} {d : Option Nat} {K : K0} {f : Rg} {L : Ob} {p : Po} {t : TypeId} {x y : Operand}
  {k : IntKind} {a b : Int},
  dPure P n d
      (do
        eqGuard BinOp.geq t x y (Value.int k a) (Value.int k b)
        binOp BinOp.geq t (Value.int k a) (Value.int k b))
      K f L p =
    K (put n f d (S.c (C.v (Value.bool (decide (b ≤ a)))))) L p) ∧
  (∀ {P : Program} {n : Nat} {d : Option Nat} {K : K0} {f : Rg} {L : Ob} {p : Po} {t : TypeId} {x y : Operand}
  {k : IntKind} {a b : Int},
  dPure P n d
      (do
        eqGuard BinOp.eql t x y (Value.int k a) (Value.int k b)
        binOp BinOp.eql t (Value.int k a) (Value.int k b))
      K f L p =
    K (put n f d (S.c (C.v (Value.bool (decide (a = b)))))) L p) ∧
  (∀ {P : Program} {n : Nat} {d : Option Nat} {K : K0} {f : Rg} {L : Ob} {p : Po} {t : TypeId} {x y : Operand}
  {k : IntKind} {a b : Int},
  dPure P n d
      (do
        eqGuard BinOp.neq t x y (Value.int k a) (Value.int k b)
        binOp BinOp.neq t (Value.int k a) (Value.int k b))
      K f L p =
    K (put n f d (S.c (C.v (Value.bool !decide (a = b))))) L p) ∧
  (∀ {P : Program} {n : Nat} {d : Option Nat} {K : K0} {f : Rg} {L : Ob} {p : Po} {t : TypeId} {x y : Operand}
  {u v : ByteArray},
  dPure P n d
      (do
        eqGuard BinOp.eql t x y (Value.string u) (Value.string v)
        binOp BinOp.eql t (Value.string u) (Value.string v))
      K f L p =
    K (put n f d (S.c (C.v (Value.bool (decide (u = v)))))) L p) ∧
  (∀ {P : Program} {n : Nat} {d : Option Nat} {K : K0} {f : Rg} {L : Ob} {p : Po} {t : TypeId} {x y : Operand}
  {u v : ByteArray},
  dPure P n d
      (do
        eqGuard BinOp.neq t x y (Value.string u) (Value.string v)
        binOp BinOp.neq t (Value.string u) (Value.string v))
      K f L p =
    K (put n f d (S.c (C.v (Value.bool !decide (u = v))))) L p) ∧
  (∀ {P : Program} {n : Nat} {d : Option Nat} {K : K0} {f : Rg} {L : Ob} {p : Po} {t : TypeId} {x y : Operand}
  {u v : ByteArray},
  dPure P n d
      (do
        eqGuard BinOp.lss t x y (Value.string u) (Value.string v)
        binOp BinOp.lss t (Value.string u) (Value.string v))
      K f L p =
    K (put n f d (S.c (C.v (Value.bool (Op.bytesLess (ByteArray.toList u) (ByteArray.toList v)))))) L p) ∧
  (∀ {P : Program} {n : Nat} {d : Option Nat} {K : K0} {f : Rg} {L : Ob} {p : Po} {t : TypeId} {x y : Operand}
  {u v : ByteArray},
  dPure P n d
      (do
        eqGuard BinOp.gtr t x y (Value.string u) (Value.string v)
        binOp BinOp.gtr t (Value.string u) (Value.string v))
      K f L p =
    K (put n f d (S.c (C.v (Value.bool !(Op.bytesLess (ByteArray.toList u) (ByteArray.toList v) || decide (u = v)))))) L
      p) :=
  ⟨@e2, @e3, @e4, @e5, @e6, @e7, @e8, @e9, @e10, @e11, @e12, @pu_add, @pu_sub, @pu_mul, @pu_lss, @pu_leq, @pu_gtr, @pu_geq, @pu_eql, @pu_neq, @pu_seql, @pu_sneq, @pu_slss, @pu_sgtr⟩
theorem z3 : (∀ {P : Program} {n : Nat} {d : Option Nat} {K : K0} {f : Rg} {L : Ob} {p : Po} {t : TypeId} {x y : Operand}
  {u v : ByteArray},
  ByteArray.size u + ByteArray.size v ≤ 9223372036854775807 →
    dPure P n d
        (do
          eqGuard BinOp.add t x y (Value.string u) (Value.string v)
          binOp BinOp.add t (Value.string u) (Value.string v))
        K f L p =
      K (put n f d (S.c (C.v (Value.string (u ++ v))))) L p) ∧
  (∀ {P : Program} {n : Nat} {d : Option Nat} {K : K0} {f : Rg} {L : Ob} {p : Po} {t : TypeId} {x y : Operand}
  {i j : Bool},
  Program.underlying P t = some TypeDesc.bool →
    dPure P n d
        (do
          eqGuard BinOp.eql t x y (Value.bool i) (Value.bool j)
          binOp BinOp.eql t (Value.bool i) (Value.bool j))
        K f L p =
      K (put n f d (S.c (C.v (Value.bool (i == j))))) L p) ∧
  (∀ {P : Program} {n : Nat} {d : Option Nat} {K : K0} {f : Rg} {L : Ob} {p : Po} {t : TypeId} {x y : Operand}
  {i j : Bool},
  Program.underlying P t = some TypeDesc.bool →
    dPure P n d
        (do
          eqGuard BinOp.neq t x y (Value.bool i) (Value.bool j)
          binOp BinOp.neq t (Value.bool i) (Value.bool j))
        K f L p =
      K (put n f d (S.c (C.v (Value.bool !i == j)))) L p) ∧
  (∀ {P : Program} {n : Nat} {d : Option Nat} {K : K0} {f : Rg} {L : Ob} {p : Po} {i : Bool},
  dPure P n d (Op.unary UnOp.not (Value.bool i)) K f L p = K (put n f d (S.c (C.v (Value.bool !i)))) L p) ∧
  (∀ {P : Program} {n : Nat} {d : Option Nat} {K : K0} {f : Rg} {L : Ob} {p : Po} {k : IntKind} {a : Int},
  dPure P n d (Op.unary UnOp.neg (Value.int k a)) K f L p =
    K (put n f d (S.c (C.v (Value.int k (IntKind.wrap k (-a)))))) L p) ∧
  (∀ {P : Program} {n : Nat} {d : Option Nat} {K : K0} {f : Rg} {L : Ob} {p : Po} {t : TypeId} {x y : Operand}
  {k : IntKind} {a b : Int},
  b ≠ 0 →
    dPure P n d
        (do
          eqGuard BinOp.rem t x y (Value.int k a) (Value.int k b)
          binOp BinOp.rem t (Value.int k a) (Value.int k b))
        K f L p =
      K (put n f d (S.c (C.v (Value.int k (Int.tmod a b))))) L p) ∧
  (∀ {P : Program} {n : Nat} {d : Option Nat} {K : K0} {f : Rg} {L : Ob} {p : Po} {t : TypeId} {x y : Operand}
  {k : IntKind} {a b : Int},
  b ≠ 0 →
    dPure P n d
        (do
          eqGuard BinOp.quo t x y (Value.int k a) (Value.int k b)
          binOp BinOp.quo t (Value.int k a) (Value.int k b))
        K f L p =
      K (put n f d (S.c (C.v (Value.int k (IntKind.wrap k (Int.tdiv a b)))))) L p) ∧
  (∀ {P : Program} {n : Nat} {d : Option Nat} {K : K0} {f : Rg} {L : Ob} {p : Po} {t : TypeId} {x y : Operand}
  {k yk : IntKind} {a b : Int},
  0 ≤ b →
    dPure P n d
        (do
          eqGuard BinOp.shr t x y (Value.int k a) (Value.int yk b)
          binOp BinOp.shr t (Value.int k a) (Value.int yk b))
        K f L p =
      K (put n f d (S.c (C.v (Value.int k (shrI k a b))))) L p) ∧
  (∀ {P : Program} {n : Nat} {d : Option Nat} {K : K0} {f : Rg} {L : Ob} {p : Po} {t : TypeId} {x y : Operand}
  {k : IntKind} {a b : Int},
  dPure P n d
      (do
        eqGuard BinOp.xor t x y (Value.int k a) (Value.int k b)
        binOp BinOp.xor t (Value.int k a) (Value.int k b))
      K f L p =
    K (put n f d (S.c (C.v (Value.int k (xorI k a b))))) L p) ∧
  (∀ {P : Program} {n : Nat} {d : Option Nat} {K : K0} {f : Rg} {L : Ob} {p : Po} {t : TypeId} {x y : Operand}
  {k : IntKind} {a b : Int},
  dPure P n d
      (do
        eqGuard BinOp.and t x y (Value.int k a) (Value.int k b)
        binOp BinOp.and t (Value.int k a) (Value.int k b))
      K f L p =
    K (put n f d (S.c (C.v (Value.int k (andI k a b))))) L p) ∧
  (∀ {P : Program} {n : Nat} {d : Option Nat} {K : K0} {f : Rg} {L : Ob} {p : Po} {t s : TypeId} {k : IntKind}
  {a : Int},
  Option.isSome (Program.underlying P s) = true →
    Program.underlying P t = some (TypeDesc.int (Program.intKind P t)) →
      dPure P n d (convert s t (Value.int k a)) K f L p =
        K (put n f d (S.c (C.v (Value.int (Program.intKind P t) (IntKind.wrap (Program.intKind P t) a))))) L p) ∧
  (∀ {P : Program} {n : Nat} {d : Option Nat} {K : K0} {f : Rg} {L : Ob} {p : Po} {t : TypeId} {k yk : IntKind}
  {a b : Int} {u : ByteArray},
  Program.underlying P t = some TypeDesc.string →
    okV (Value.string u) →
      0 ≤ a →
        a ≤ b →
          b ≤ ↑(ByteArray.size u) →
            dPure P n d (Instr.sliceAt t (Value.string u) (some (Value.int k a)) (some (Value.int yk b)) none) K f L p =
              K (put n f d (S.c (C.v (Value.string (ByteArray.extract u (Int.toNat a) (Int.toNat b)))))) L p) ∧
  (∀ {P : Program} {n : Nat} {d : Option Nat} {K : K0} {f : Rg} {L : Ob} {p : Po} {t : TypeId} {k : IntKind}
  {a : Int} {u : ByteArray},
  Program.underlying P t = some TypeDesc.string →
    okV (Value.string u) →
      0 ≤ a →
        a ≤ ↑(ByteArray.size u) →
          dPure P n d (Instr.sliceAt t (Value.string u) (some (Value.int k a)) none none) K f L p =
            K (put n f d (S.c (C.v (Value.string (ByteArray.extract u (Int.toNat a) (ByteArray.size u)))))) L p) ∧
  (∀ {P : Program} {n : Nat} {d : Option Nat} {K : K0} {f : Rg} {L : Ob} {p : Po} {t : TypeId} {k : IntKind}
  {b : Int} {u : ByteArray},
  Program.underlying P t = some TypeDesc.string →
    okV (Value.string u) →
      0 ≤ b →
        b ≤ ↑(ByteArray.size u) →
          dPure P n d (Instr.sliceAt t (Value.string u) none (some (Value.int k b)) none) K f L p =
            K (put n f d (S.c (C.v (Value.string (ByteArray.extract u 0 (Int.toNat b)))))) L p) ∧
  (∀ (CT : CallT) (P : Program) (n : Nat) (o : Oper) (K : K0) (f : Rg) (L : Ob) (p : Po),
  dOp CT P n o K f L p =
    match Oper.op o with
    | Op.move x => K (put n f (Oper.dst o) (ev f x)) L p
    | Op.assign x => K (put n f (Oper.dst o) (ev f x)) L p
    | Op.pick c a b =>
      match ev f c with
      | S.c (C.v (Value.bool t)) => Gd t K (put n f (Oper.dst o) (ev f a)) K (put n f (Oper.dst o) (ev f b)) L p
      | x => False
    | Op.alloc t =>
      match zeroD P t with
      | some z => create n (Oper.dst o) [] (O.str (selfZ t (List.map C.v z))) (fun d => C.p d 0) K f L p
      | none => False
    | Op.box t x =>
      match cellsOf? (ev f x) with
      | some cs => noSelf cs = true ∧ create n (Oper.dst o) [] (O.str cs) (fun d => C.p d 0) K f L p
      | none => False
    | Op.build t ps =>
      match zeroD P t, placesS P t with
      | some z, some pl =>
        match fillC pl (List.map C.v z) (parts f (Array.toList ps)) with
        | some cs => K (put n f (Oper.dst o) (S.ag cs)) L p
        | none => False
      | x, x_1 => False
    | Op.buildSlice T len ps => dBuildS P n (Oper.dst o) T len (parts f (Array.toList ps)) K f L p
    | Op.makeSlice T l c => dMake P n (Oper.dst o) T (ev f l) (ev f c) K f L p
    | Op.load t x => dLoad P n (Oper.dst o) t (ev f x) K f L p
    | Op.store t x y => dStore P n (Oper.dst o) t (ev f x) (ev f y) K f L p
    | Op.fieldAddr T x k =>
      match fieldOff P T k, ev f x with
      | some q, S.c (C.p i off) => K (put n f (Oper.dst o) (S.c (C.p i (off + q)))) L p
      | some q, S.c (C.q ds) => K (put n f (Oper.dst o) (S.c (C.q (List.drop q ds)))) L p
      | x, x_1 => False
    | Op.indexAddr T x i => dIndexAddr P n (Oper.dst o) T (ev f x) (ev f i) K f L p
    | Op.makeFunc (Fn.func g) first captured =>
      match ptrIds (List.map (ev f) (Array.toList first)), ptrIds (List.map (ev f) (Array.toList captured)) with
      | some a, some b => K (put n f (Oper.dst o) (S.c (C.fn g a b))) L p
      | x, x_1 => False
    | Op.call c =>
      match Call.callee c with
      | Callee.value g =>
        match ev f g with
        | S.c (C.fn g a b) =>
          CT g
            (List.map (fun i => S.c (C.p i 0)) a ++ List.map (ev f) (Array.toList (Call.args c)) ++
              List.map (fun i => S.c (C.p i 0)) b)
            n (Oper.dst o) K f L p
        | x => False
      | Callee.builtin Builtin.len =>
        match List.map (ev f) (Array.toList (Call.args c)), Array.toList (Call.argTypes c) with
        | [x], [T] => dLen P n (Oper.dst o) T x K f L p
        | x, x_1 => False
      | Callee.builtin Builtin.max =>
        match List.map (ev f) (Array.toList (Call.args c)) with
        | [x, y] =>
          match plain? x, plain? y with
          | some (Value.int k a), some (Value.int k_1 b) =>
            K (put n f (Oper.dst o) (S.c (C.v (Value.int k (if b > a then b else a))))) L p
          | x, x_1 => False
        | x => False
      | Callee.builtin Builtin.min =>
        match List.map (ev f) (Array.toList (Call.args c)) with
        | [x, y] =>
          match plain? x, plain? y with
          | some (Value.int k a), some (Value.int k_1 b) =>
            K (put n f (Oper.dst o) (S.c (C.v (Value.int k (if b < a then b else a))))) L p
          | x, x_1 => False
        | x => False
      | Callee.builtin Builtin.append =>
        match List.map (ev f) (Array.toList (Call.args c)), Array.toList (Call.argTypes c) with
        | [s, t], [T, U] => appOk P T U ∧ zeroOk P T = true ∧ dAppend P n (Oper.dst o) T s t K f L p
        | x, x_1 => False
      | x => False
    | Op.binOp op t x y yType =>
      match plain? (ev f x), plain? (ev f y) with
      | some a, some b =>
        dPure P n (Oper.dst o)
          (do
            eqGuard op t x y a b
            binOp op t a b)
          K f L p
      | x, x_1 => False
    | Op.unOp op xType x =>
      match ev f x with
      | S.c (C.v a) => dPure P n (Oper.dst o) (Op.unary op a) K f L p
      | x => False
    | Op.nilCheck x =>
      match ev f x with
      | S.c (C.p i off) => K (put n f (Oper.dst o) (S.c (C.p i off))) L p
      | S.c (C.q ds) => K (put n f (Oper.dst o) (S.c (C.q ds))) L p
      | S.c (C.fn g a b) => K (put n f (Oper.dst o) (S.c (C.fn g a b))) L p
      | x => False
    | Op.convert s t x => dConv P n (Oper.dst o) s t (ev f x) K f L p
    | Op.extract x i =>
      match comp? (ev f x) i with
      | some s => K (put n f (Oper.dst o) s) L p
      | none => False
    | Op.index T x i =>
      match ev f x, ev f i with
      | S.c (C.v a), S.c (C.v b) => dPure P n (Oper.dst o) (Instr.index T a b) K f L p
      | x, x_1 => False
    | Op.slice T x lo hi mx =>
      match mx, optV (Option.map (ev f) lo), optV (Option.map (ev f) hi) with
      | none, some l, some h => dSlice P n (Oper.dst o) T (ev f x) l h K f L p
      | x, x_1, x_2 => False
    | x => False) ∧
  (∀ (CT : CallT) (P : Program) (n : Nat) (o : Oper) (K : K0) (f : Rg) (L : Ob) (p : Po),
  dOpF CT P n o K f L p =
    match Oper.op o with
    | Op.slice xType x low high max =>
      match slOf (ev f x) with
      | some i => frz i (fun x x_1 => dOp CT P n o K) f L p
      | none => dOp CT P n o K f L p
    | Op.convert s t x =>
      match bytesTo P t, ev f x with
      | some e, S.c (C.v (Value.string u)) =>
        lenK P s = 2 ∧
          create n (Oper.dst o) []
            (O.arr e (ByteArray.size u) (bytesD (Array.toList (ByteArray.data u))) (tell p (some [])))
            (fun d => C.s d (ByteArray.size u)) K f L p
      | x, x_1 => dOp CT P n o K f L p
    | x => dOp CT P n o K f L p) ∧
  (∀ (i n : Nat), slOf (S.c (C.s i n)) = some i) ∧
  (∀ (x : S), (∀ (i n : Nat), x = S.c (C.s i n) → False) → slOf x = none) ∧
  (∀ (P : Program) (T U : TypeId), appOk P T U = (T = U ∨ lenK P U = 2)) ∧
  (noSelf [] = true) ∧
  (∀ (tail : List C), noSelf (C.self :: tail) = false) ∧
  (∀ (head : C) (r : List C), (head = C.self → False) → noSelf (head :: r) = noSelf r) ∧
  (∀ (x_2 : C) (r : List C) (y : C) (t : List C), mg (x_2 :: r) (y :: t) = mgC x_2 y :: mg r t) ∧
  (∀ (x : List C), mg [] x = x) :=
  ⟨@pu_sadd, @pu_beql, @pu_bneq, @pu_not, @pu_neg, @pu_rem, @pu_quo, @pu_shr, @pu_xor, @pu_and, @pu_cint, @pu_cut, @pu_from, @pu_to, @dOp.eq_1, @dOpF.eq_1, @slOf.eq_1, @slOf.eq_2, @appOk.eq_1, @noSelf.eq_1, @noSelf.eq_2, @noSelf.eq_3, @mg.eq_1, @mg.eq_2⟩
theorem z4 : (∀ (head : C) (tail : List C), mg (head :: tail) [] = []) ∧
  (mgC C.self (C.v (Value.pointer none)) = C.self) ∧
  (∀ (x x_1 : C), (x = C.self → x_1 = C.v (Value.pointer none) → False) → mgC x x_1 = x_1) ∧
  (∀ (t : TypeId) (r : List C),
  selfZ t (C.v (Value.pointer none) :: r) = if t = 155 then C.self :: r else C.v (Value.pointer none) :: r) ∧
  (∀ (t : TypeId) (cs : List C),
  (∀ (r : List C), cs = C.v (Value.pointer none) :: r → False) → selfZ t cs = if t = 155 then cs else cs) ∧
  (∀ (n : Nat) (is : List Nat) (ob : O) (mk : Nat → C) (K : K0) (f : Rg) (L : Ob) (p : Po) (d_2 : Nat),
  create n (some d_2) is ob mk K f L p =
    if d_2 < n then K (upd (kR [d_2] is f) d_2 (S.c (mk d_2))) ((d_2, kO [d_2] is ob) :: kL [d_2] is L) p else False) ∧
  (∀ (n : Nat) (is : List Nat) (ob : O) (mk : Nat → C) (K : K0) (f : Rg) (L : Ob) (p : Po),
  create n none is ob mk K f L p = False) ∧
  (∀ (x : List D), takeD 0 x = some []) ∧
  (∀ (k : Nat) (x_2 : D) (r : List D),
  takeD (Nat.succ k) (x_2 :: r) =
    match takeD k r with
    | some xs => some (x_2 :: xs)
    | none => none) ∧
  (∀ (n : Nat), takeD (Nat.succ n) [] = none) ∧
  (∀ (n : Nat) (d : Option Nat) (t : TS) (cs : List C) (K : K0) (f : Rg) (L : Ob) (p : Po),
  kLoad n d t cs K f L p =
    match mkS t cs with
    | some s => K (put n f d s) L p
    | none => False) ∧
  (∀ (P : Program) (n : Nat) (d : Option Nat) (t : TypeId) (K : K0) (f : Rg) (L : Ob) (p : Po) (i off : Nat),
  dLoad P n d t (S.c (C.p i off)) K f L p =
    match look L i with
    | some (O.str cs) =>
      off + sizeTS (tyS P t) ≤ List.length cs ∧
        kLoad n d (tyS P t) (List.take (sizeTS (tyS P t)) (List.drop off cs)) K f L p
    | some (O.arr ty n_1 ds F) =>
      match takeD (sizeTS (tyS P t)) (List.drop off ds) with
      | some xs => kLoad n d (tyS P t) (csOf xs) K f L p
      | none => False
    | none => False) ∧
  (∀ (P : Program) (n : Nat) (d : Option Nat) (t : TypeId) (K : K0) (f : Rg) (L : Ob) (p : Po) (ds : List D),
  dLoad P n d t (S.c (C.q ds)) K f L p =
    match takeD (sizeTS (tyS P t)) ds with
    | some xs => kLoad n d (tyS P t) (csOf xs) K f L p
    | none => False) ∧
  (∀ (P : Program) (n : Nat) (d : Option Nat) (t : TypeId) (x : S) (K : K0) (f : Rg) (L : Ob) (p : Po),
  (∀ (i off : Nat), x = S.c (C.p i off) → False) →
    (∀ (ds : List D), x = S.c (C.q ds) → False) → dLoad P n d t x K f L p = False) ∧
  (setF (some []) (some []) = some []) ∧
  (∀ (F G : Fp), (F = some [] → G = some [] → False) → setF F G = none) ∧
  (∀ (P : Program) (n : Nat) (d : Option Nat) (t : TypeId) (x y : S) (K : K0) (f : Rg) (L : Ob) (p : Po),
  dStore P n d t x y K f L p =
    match cellsOf? y with
    | some ys =>
      List.all ys goodC = true ∧
        List.length ys = sizeTS (tyS P t) ∧
          tyS P t ≠ TS.bad ∧
            match x with
            | S.c (C.p i off) =>
              match look L i with
              | some (O.str cs) =>
                off + List.length ys ≤ List.length cs ∧
                  K (put n f d (S.c C.dead)) (setL L i (O.str (splice cs off (mg (List.drop off cs) ys)))) p
              | some (O.arr ty m ds F) =>
                off + List.length ys ≤ List.length ds ∧
                  match dsOf ys with
                  | some (es, G) => K (put n f d (S.c C.dead)) (setL L i (O.arr ty m (splice ds off es) (setF F G))) p
                  | none => False
              | none => False
            | x => False
    | none => False) ∧
  (∀ (L : Ob) (k : Nat → List D → Fp → Prop) (j q : Nat),
  newsOf (S.c (C.s j q)) L k =
    match look L j with
    | some (O.arr ty m ds F) => m = q ∧ k q ds F
    | x => False) ∧
  (∀ (L : Ob) (k : Nat → List D → Fp → Prop) (q : Nat) (ds : List D) (F : Fp),
  newsOf (S.c (C.sl q ds F)) L k = k q ds F) ∧
  (∀ (L : Ob) (k : Nat → List D → Fp → Prop),
  newsOf (S.c (C.v (Value.slice none 0 0))) L k = k 0 [] (some [])) ∧
  (∀ (L : Ob) (k : Nat → List D → Fp → Prop) (s : ByteArray),
  newsOf (S.c (C.v (Value.string s))) L k = k (ByteArray.size s) (bytesD (Array.toList (ByteArray.data s))) (some [])) ∧
  (∀ (t : S) (L : Ob) (k : Nat → List D → Fp → Prop),
  (∀ (j q : Nat), t = S.c (C.s j q) → False) →
    (∀ (q : Nat) (ds : List D) (F : Fp), t = S.c (C.sl q ds F) → False) →
      (t = S.c (C.v (Value.slice none 0 0)) → False) →
        (∀ (s : ByteArray), t = S.c (C.v (Value.string s)) → False) → newsOf t L k = False) ∧
  (∀ (P : Program) (n : Nat) (d : Option Nat) (T : TypeId) (s t : S) (K : K0) (f : Rg) (L : Ob) (p : Po),
  dAppend P n d T s t K f L p =
    match elemS P T with
    | none => False
    | some (e, sz, bytes) =>
      newsOf t L fun q es G =>
        0 < sz ∧
          List.length es = q * sz ∧
            match s with
            | S.c (C.s i m) =>
              match look L i with
              | some (O.arr ty m' ds F) =>
                ty = e ∧
                  m' = m ∧
                    room (m + q) bytes ∧
                      create n d [i] (O.arr e (m + q) (ds ++ es) (tell p (joinF F G))) (fun d => C.s d (m + q)) K f L p
              | x => False
            | S.c (C.v (Value.slice none 0 0)) =>
              room q bytes ∧ create n d [] (O.arr e q es (tell p G)) (fun d => C.s d q) K f L p
            | x => False) ∧
  (∀ (f : Rg) (ps : List (Nat × Operand)), parts f ps = List.map (fun x => (Prod.fst x, ev f (Prod.snd x))) ps) :=
  ⟨@mg.eq_3, @mgC.eq_1, @mgC.eq_2, @selfZ.eq_1, @selfZ.eq_2, @create.eq_1, @create.eq_2, @takeD.eq_1, @takeD.eq_2, @takeD.eq_3, @kLoad.eq_1, @dLoad.eq_1, @dLoad.eq_2, @dLoad.eq_3, @setF.eq_1, @setF.eq_2, @dStore.eq_1, @newsOf.eq_1, @newsOf.eq_2, @newsOf.eq_3, @newsOf.eq_4, @newsOf.eq_5, @dAppend.eq_1, @parts.eq_1⟩
theorem z5 : (∀ (P : Program) (e sz k : Nat),
  zerosD P e sz k =
    match zeroD P e with
    | some z => if List.length z = sz then some (List.flatten (List.replicate k z)) else none
    | none => none) ∧
  (∀ (P : Program) (n : Nat) (d : Option Nat) (T len : Nat) (ps : List (Nat × S)) (K : K0) (f : Rg) (L : Ob)
  (p : Po),
  dBuildS P n d T len ps K f L p =
    match elemS P T with
    | some (e, sz, snd) =>
      match zerosD P e sz len with
      | some zs =>
        match fillC (List.map (fun i => (i * sz, sz)) (List.range len)) (List.map C.v zs) ps with
        | some cs =>
          0 < sz ∧
            len * sz ≤ 16777216 ∧
              outC 12 cs
                (fun cs f L p =>
                  match dsOf cs with
                  | some (ds, F) => create n d [] (O.arr e len ds (tell p F)) (fun d => C.s d len) K f L p
                  | none => False)
                f L p
        | none => False
      | none => False
    | none => False) ∧
  (∀ (P : Program) (n : Nat) (d : Option Nat) (T : TypeId) (x : S) (K : K0) (f : Rg) (L : Ob) (p : Po)
  (k : IntKind) (k_1 : Int),
  dIndexAddr P n d T x (S.c (C.v (Value.int k k_1))) K f L p =
    match elemS P T with
    | some (fst, sz, snd) =>
      match x with
      | S.c (C.s j ln) => 0 ≤ k_1 ∧ k_1 < ↑ln ∧ K (put n f d (S.c (C.p j (Int.toNat k_1 * sz)))) L p
      | S.c (C.sl ln ds F) =>
        0 ≤ k_1 ∧
          k_1 < ↑ln ∧ ∃ ds', List.drop (Int.toNat k_1 * sz) ds = ds' ∧ ds' ≠ [] ∧ K (put n f d (S.c (C.q ds'))) L p
      | x => False
    | none => False) ∧
  (∀ (P : Program) (n : Nat) (d : Option Nat) (T : TypeId) (x i : S) (K : K0) (f : Rg) (L : Ob) (p : Po),
  (∀ (k : IntKind) (k_1 : Int), i = S.c (C.v (Value.int k k_1)) → False) → dIndexAddr P n d T x i K f L p = False) ∧
  (∀ (P : Program) (n : Nat) (d : Option Nat) (T : TypeId) (K : K0) (f : Rg) (L : Ob) (p : Po) (j q : Nat),
  dLen P n d T (S.c (C.s j q)) K f L p =
    (lenK P T = 1 ∧ (q ≤ 9223372036854775807 → K (put n f d (S.c (C.v (Value.int IntKind.i64 ↑q)))) L p))) ∧
  (∀ (P : Program) (n : Nat) (d : Option Nat) (T : TypeId) (K : K0) (f : Rg) (L : Ob) (p : Po) (q : Nat)
  (ds : List D) (F : Fp),
  dLen P n d T (S.c (C.sl q ds F)) K f L p =
    (lenK P T = 1 ∧ (q ≤ 9223372036854775807 → K (put n f d (S.c (C.v (Value.int IntKind.i64 ↑q)))) L p))) ∧
  (∀ (P : Program) (n : Nat) (d : Option Nat) (T : TypeId) (K : K0) (f : Rg) (L : Ob) (p : Po),
  dLen P n d T (S.c (C.v (Value.slice none 0 0))) K f L p =
    (lenK P T = 1 ∧ K (put n f d (S.c (C.v (Value.int IntKind.i64 0)))) L p)) ∧
  (∀ (P : Program) (n : Nat) (d : Option Nat) (T : TypeId) (K : K0) (f : Rg) (L : Ob) (p : Po) (s : ByteArray),
  dLen P n d T (S.c (C.v (Value.string s))) K f L p =
    (lenK P T = 2 ∧
      (ByteArray.size s ≤ 9223372036854775807 →
        K (put n f d (S.c (C.v (Value.int IntKind.i64 ↑(ByteArray.size s))))) L p))) ∧
  (∀ (P : Program) (n : Nat) (d : Option Nat) (T : TypeId) (x : S) (K : K0) (f : Rg) (L : Ob) (p : Po),
  (∀ (j q : Nat), x = S.c (C.s j q) → False) →
    (∀ (q : Nat) (ds : List D) (F : Fp), x = S.c (C.sl q ds F) → False) →
      (x = S.c (C.v (Value.slice none 0 0)) → False) →
        (∀ (s : ByteArray), x = S.c (C.v (Value.string s)) → False) → dLen P n d T x K f L p = False) ∧
  (vals? [] = some []) ∧
  (∀ (x_1 : Value) (r : List C),
  vals? (C.v x_1 :: r) =
    match vals? r with
    | some vs => some (x_1 :: vs)
    | none => none) ∧
  (∀ (head : C) (tail : List C), (∀ (x : Value), head = C.v x → False) → vals? (head :: tail) = none) ∧
  (∀ (x_1 : Value), plain? (S.c (C.v x_1)) = some x_1) ∧
  (∀ (cs : List C),
  plain? (S.ag cs) =
    match vals? cs with
    | some vs => some (Value.agg (List.toArray vs))
    | none => none) ∧
  (∀ (x : S),
  (∀ (x_1 : Value), x = S.c (C.v x_1) → False) → (∀ (cs : List C), x = S.ag cs → False) → plain? x = none) ∧
  (∀ (P : Program) (n : Nat) (d : Option Nat) (s t : TypeId) (K : K0) (f : Rg) (L : Ob) (p : Po) (ln : Nat)
  (ds : List D) (F : Fp), dConv P n d s t (S.c (C.sl ln ds F)) K f L p = dConvB P n d s t ln ds K f L p) ∧
  (∀ (P : Program) (n : Nat) (d : Option Nat) (s t : TypeId) (K : K0) (f : Rg) (L : Ob) (p : Po) (i ln : Nat),
  dConv P n d s t (S.c (C.s i ln)) K f L p =
    match look L i with
    | some (O.arr ty m ds F) => m = ln ∧ dConvB P n d s t ln ds K f L p
    | x => False) ∧
  (∀ (P : Program) (n : Nat) (d : Option Nat) (s t : TypeId) (K : K0) (f : Rg) (L : Ob) (p : Po) (a : Value),
  dConv P n d s t (S.c (C.v a)) K f L p = dPure P n d (convert s t a) K f L p) ∧
  (∀ (P : Program) (n : Nat) (d : Option Nat) (s t : TypeId) (x : S) (K : K0) (f : Rg) (L : Ob) (p : Po),
  (∀ (ln : Nat) (ds : List D) (F : Fp), x = S.c (C.sl ln ds F) → False) →
    (∀ (i ln : Nat), x = S.c (C.s i ln) → False) →
      (∀ (a : Value), x = S.c (C.v a) → False) → dConv P n d s t x K f L p = False) ∧
  (∀ (x : Nat) (xs : List (List C × Bool)),
  comp? (S.tu xs) x =
    match xs[x]? with
    | some ([c], true) => some (S.c c)
    | some (cs, false) => some (S.ag cs)
    | x => none) ∧
  (∀ (x : S) (x_1 : Nat), (∀ (xs : List (List C × Bool)), x = S.tu xs → False) → comp? x x_1 = none) ∧
  (ptrIds [] = some []) ∧
  (∀ (i : Nat) (r : List S),
  ptrIds (S.c (C.p i 0) :: r) =
    match ptrIds r with
    | some is => some (i :: is)
    | none => none) ∧
  (∀ (head : S) (tail : List S), (∀ (i : Nat), head = S.c (C.p i 0) → False) → ptrIds (head :: tail) = none) :=
  ⟨@zerosD.eq_1, @dBuildS.eq_1, @dIndexAddr.eq_1, @dIndexAddr.eq_2, @dLen.eq_1, @dLen.eq_2, @dLen.eq_3, @dLen.eq_4, @dLen.eq_5, @vals?.eq_1, @vals?.eq_2, @vals?.eq_3, @plain?.eq_1, @plain?.eq_2, @plain?.eq_3, @dConv.eq_1, @dConv.eq_2, @dConv.eq_3, @dConv.eq_4, @comp?.eq_1, @comp?.eq_2, @ptrIds.eq_1, @ptrIds.eq_2, @ptrIds.eq_3⟩
theorem z6 : (optV none = some none) ∧
  (∀ (a : Value), optV (some (S.c (C.v a))) = some (some a)) ∧
  (∀ (val : S), (∀ (a : Value), val = S.c (C.v a) → False) → optV (some val) = none) ∧
  (loB none = some 0) ∧
  (∀ (k : IntKind) (a : Int), loB (some (Value.int k a)) = some a) ∧
  (∀ (val : Value), (∀ (k : IntKind) (a : Int), val = Value.int k a → False) → loB (some val) = none) ∧
  (∀ (ln : Nat), hiB ln none = some ↑ln) ∧
  (∀ (ln : Nat) (k : IntKind) (a : Int), hiB ln (some (Value.int k a)) = some a) ∧
  (∀ (ln : Nat) (val : Value),
  (∀ (k : IntKind) (a : Int), val = Value.int k a → False) → hiB ln (some val) = none) ∧
  (∀ (P : Program) (n : Nat) (d : Option Nat) (T : TypeId) (ln : Nat) (ds : List D) (l h : Option Value)
  (K : K0) (f : Rg) (L : Ob) (p : Po),
  dCut P n d T ln ds l h K f L p =
    match elemS P T, loB l, hiB ln h with
    | some (fst, sz, snd), some l, some h =>
      0 ≤ l ∧
        l ≤ h ∧
          h ≤ ↑ln ∧
            K
              (put n f d
                (S.c
                  (C.sl (Int.toNat (h - l)) (List.take (Int.toNat (h - l) * sz) (List.drop (Int.toNat l * sz) ds))
                    none)))
              L p
    | x, x_1, x_2 => False) ∧
  (∀ (P : Program) (n : Nat) (d : Option Nat) (T : TypeId) (l h : Option Value) (K : K0) (f : Rg) (L : Ob)
  (p : Po) (s : ByteArray),
  dSlice P n d T (S.c (C.v (Value.string s))) l h K f L p =
    dPure P n d (Instr.sliceAt T (Value.string s) l h none) K f L p) ∧
  (∀ (P : Program) (n : Nat) (d : Option Nat) (T : TypeId) (l h : Option Value) (K : K0) (f : Rg) (L : Ob)
  (p : Po) (ln : Nat) (ds : List D) (F : Fp),
  dSlice P n d T (S.c (C.sl ln ds F)) l h K f L p = dCut P n d T ln ds l h K f L p) ∧
  (∀ (P : Program) (n : Nat) (d : Option Nat) (T : TypeId) (x : S) (l h : Option Value) (K : K0) (f : Rg)
  (L : Ob) (p : Po),
  (∀ (s : ByteArray), x = S.c (C.v (Value.string s)) → False) →
    (∀ (ln : Nat) (ds : List D) (F : Fp), x = S.c (C.sl ln ds F) → False) → dSlice P n d T x l h K f L p = False) ∧
  (∀ (c : C), mkS TS.one [c] = some (S.c c)) ∧
  (∀ (cs : List C), (∀ (c : C), cs = [c] → False) → mkS TS.one cs = none) ∧
  (∀ (cs : List C) (k : Nat), mkS (TS.agg k) cs = if List.length cs = k then some (S.ag cs) else none) ∧
  (∀ (cs : List C), mkS TS.bad cs = none) ∧
  (∀ (places : List (Nat × Nat)) (cs : List C), fillC places cs [] = some cs) ∧
  (∀ (places : List (Nat × Nat)) (cs : List C) (i : Nat) (s : S) (r : List (Nat × S)),
  fillC places cs ((i, s) :: r) =
    match places[i]?, cellsOf? s with
    | some (off, size), some ys =>
      if List.length ys = size ∧ off + size ≤ List.length cs then fillC places (splice cs off ys) r else none
    | x, x_1 => none) ∧
  (∀ (a b : List (List Nat)), joinF (some a) (some b) = some (a ++ b)) ∧
  (∀ (x x_1 : Fp), (∀ (a b : List (List Nat)), x = some a → x_1 = some b → False) → joinF x x_1 = none) ∧
  (csOf [] = []) ∧
  (∀ (d : D) (r : List D), csOf (d :: r) = cOf d :: csOf r) ∧
  (∀ (v : Value), cOf (D.lit v) = C.v v) :=
  ⟨@optV.eq_1, @optV.eq_2, @optV.eq_3, @loB.eq_1, @loB.eq_2, @loB.eq_3, @hiB.eq_1, @hiB.eq_2, @hiB.eq_3, @dCut.eq_1, @dSlice.eq_1, @dSlice.eq_2, @dSlice.eq_3, @mkS.eq_1, @mkS.eq_2, @mkS.eq_3, @mkS.eq_4, @fillC.eq_1, @fillC.eq_2, @joinF.eq_1, @joinF.eq_2, @csOf.eq_1, @csOf.eq_2, @cOf.eq_1⟩
theorem z7 : (∀ (n : Nat) (ds : List D), cOf (D.sl n ds) = C.sl n ds none) ∧
  (dsOf [] = some ([], some [])) ∧
  (∀ (x_1 : C) (r : List C),
  dsOf (x_1 :: r) =
    match dOf x_1, dsOf r with
    | some (d, F), some (ds, G) => some (d :: ds, joinF F G)
    | x, x_2 => none) ∧
  (∀ (F : Fp) (val : List (List Nat)), tell (some val) F = F) ∧
  (∀ (F : Fp), tell none F = none) ∧
  (∀ (i n : Nat) (x : C) (i_1 o : Nat), fC i n x (C.p i_1 o) = if i_1 = i then C.dead else C.p i_1 o) ∧
  (∀ (i n : Nat) (x : C) (i_1 n_1 : Nat),
  fC i n x (C.s i_1 n_1) = if i_1 = i then if n_1 = n then x else C.dead else C.s i_1 n_1) ∧
  (∀ (i n : Nat) (x : C) (g : FuncId) (a b : List Nat),
  fC i n x (C.fn g a b) = if inN a i = true then C.dead else if inN b i = true then C.dead else C.fn g a b) ∧
  (∀ (i n : Nat) (x x_1 : C),
  (∀ (i o : Nat), x_1 = C.p i o → False) →
    (∀ (i n : Nat), x_1 = C.s i n → False) →
      (∀ (g : FuncId) (a b : List Nat), x_1 = C.fn g a b → False) → fC i n x x_1 = x_1) ∧
  (∀ (i n : Nat) (x : C), fCs i n x [] = []) ∧
  (∀ (i n : Nat) (x x_2 : C) (r : List C), fCs i n x (x_2 :: r) = fC i n x x_2 :: fCs i n x r) ∧
  (∀ (i n : Nat) (x : C), fTs i n x [] = []) ∧
  (∀ (i n : Nat) (x : C) (cs : List C) (b : Bool) (r : List (List C × Bool)),
  fTs i n x ((cs, b) :: r) = (fCs i n x cs, b) :: fTs i n x r) ∧
  (∀ (i n : Nat) (x x_2 : C), fS i n x (S.c x_2) = S.c (fC i n x x_2)) ∧
  (∀ (i n : Nat) (x : C) (cs : List C), fS i n x (S.ag cs) = S.ag (fCs i n x cs)) ∧
  (∀ (i n : Nat) (x : C) (xs : List (List C × Bool)), fS i n x (S.tu xs) = S.tu (fTs i n x xs)) ∧
  (∀ (i n : Nat) (x : C) (cs : List C), fO i n x (O.str cs) = O.str (fCs i n x cs)) ∧
  (∀ (i n : Nat) (x : C) (t : TypeId) (n_1 : Nat) (vs : List D) (F : Fp),
  fO i n x (O.arr t n_1 vs F) = O.arr t n_1 vs F) ∧
  (∀ (i n : Nat) (x : C), fL i n x [] = []) ∧
  (∀ (i n : Nat) (x : C) (j : Nat) (b : O) (r : List (Nat × O)),
  fL i n x ((j, b) :: r) = if j = i then fL i n x r else (j, fO i n x b) :: fL i n x r) ∧
  (∀ (i : Nat) (k : Nat → C → K0) (f : Rg) (L : Ob) (p : Po),
  frz i k f L p =
    match look L i with
    | some (O.arr ty n ds F) =>
      match p, F with
      | some ps, some Fs =>
        ∀ (G : List Nat),
          k n (C.sl n ds (some (G :: Fs))) (fR i n (C.sl n ds (some (G :: Fs))) f)
            (fL i n (C.sl n ds (some (G :: Fs))) L) (some (G :: ps))
      | x, x_1 => k n (C.sl n ds none) (fR i n (C.sl n ds none) f) (fL i n (C.sl n ds none) L) p
    | x => False) ∧
  (ownsC [] = none) ∧
  (∀ (i n : Nat) (tail : List C), ownsC (C.s i n :: tail) = some i) ∧
  (∀ (head : C) (r : List C), (∀ (i n : Nat), head = C.s i n → False) → ownsC (head :: r) = ownsC r) :=
  ⟨@cOf.eq_2, @dsOf.eq_1, @dsOf.eq_2, @tell.eq_1, @tell.eq_2, @fC.eq_1, @fC.eq_2, @fC.eq_3, @fC.eq_4, @fCs.eq_1, @fCs.eq_2, @fTs.eq_1, @fTs.eq_2, @fS.eq_1, @fS.eq_2, @fS.eq_3, @fO.eq_1, @fO.eq_2, @fL.eq_1, @fL.eq_2, @frz.eq_1, @ownsC.eq_1, @ownsC.eq_2, @ownsC.eq_3⟩
theorem z8 : (∀ (x : List C) (x_1 : List C → K0), outC 0 x x_1 = fun x x_2 x_3 => False) ∧
  (∀ (x : List C) (x_1 : List C → K0) (fuel : Nat),
  outC (Nat.succ fuel) x x_1 =
    match ownsC x with
    | none => x_1 x
    | some i => frz i fun n x_2 => outC fuel (fCs i n x_2 x) x_1) ∧
  (goodC C.dead = false) ∧
  (∀ (ty : TypeId) (n : Nat) (ds : List D) (F : Fp), goodC (C.ow ty n ds F) = false) ∧
  (goodC C.self = false) ∧
  (∀ (x : C),
  (x = C.dead → False) →
    (∀ (ty : TypeId) (n : Nat) (ds : List D) (F : Fp), x = C.ow ty n ds F → False) →
      (x = C.self → False) → goodC x = true) ∧
  (∀ (ds is : List Nat) (i o : Nat), kC ds is (C.p i o) = if hit ds is i = true then C.dead else C.p i o) ∧
  (∀ (ds is : List Nat) (i n : Nat), kC ds is (C.s i n) = if hit ds is i = true then C.dead else C.s i n) ∧
  (∀ (ds is : List Nat) (g : FuncId) (a b : List Nat),
  kC ds is (C.fn g a b) = if hitL ds is a = true then C.dead else if hitL ds is b = true then C.dead else C.fn g a b) ∧
  (∀ (ds is : List Nat) (x : C),
  (∀ (i o : Nat), x = C.p i o → False) →
    (∀ (i n : Nat), x = C.s i n → False) → (∀ (g : FuncId) (a b : List Nat), x = C.fn g a b → False) → kC ds is x = x) ∧
  (∀ (ds is : List Nat), kCs ds is [] = []) ∧
  (∀ (ds is : List Nat) (x_1 : C) (r : List C), kCs ds is (x_1 :: r) = kC ds is x_1 :: kCs ds is r) ∧
  (∀ (ds is : List Nat), kTs ds is [] = []) ∧
  (∀ (ds is : List Nat) (cs : List C) (b : Bool) (r : List (List C × Bool)),
  kTs ds is ((cs, b) :: r) = (kCs ds is cs, b) :: kTs ds is r) ∧
  (∀ (ds is : List Nat) (x_1 : C), kS ds is (S.c x_1) = S.c (kC ds is x_1)) ∧
  (∀ (ds is : List Nat) (cs : List C), kS ds is (S.ag cs) = S.ag (kCs ds is cs)) ∧
  (∀ (ds is : List Nat) (xs : List (List C × Bool)), kS ds is (S.tu xs) = S.tu (kTs ds is xs)) ∧
  (∀ (ds is : List Nat) (cs : List C), kO ds is (O.str cs) = O.str (kCs ds is cs)) ∧
  (∀ (ds is : List Nat) (t : TypeId) (n : Nat) (vs : List D) (F : Fp), kO ds is (O.arr t n vs F) = O.arr t n vs F) ∧
  (∀ (ds is : List Nat), kL ds is [] = []) ∧
  (∀ (ds is : List Nat) (j : Nat) (b : O) (r : List (Nat × O)),
  kL ds is ((j, b) :: r) = if hit ds is j = true then kL ds is r else (j, kO ds is b) :: kL ds is r) ∧
  (∀ (ds is : List Nat) (i : Nat), hit ds is i = (inN ds (fam i) || inN is i)) ∧
  (∀ (ds is : List Nat), hitL ds is [] = false) ∧
  (∀ (ds is : List Nat) (i : Nat) (r : List Nat), hitL ds is (i :: r) = (hit ds is i || hitL ds is r)) :=
  ⟨@outC.eq_1, @outC.eq_2, @goodC.eq_1, @goodC.eq_2, @goodC.eq_3, @goodC.eq_4, @kC.eq_1, @kC.eq_2, @kC.eq_3, @kC.eq_4, @kCs.eq_1, @kCs.eq_2, @kTs.eq_1, @kTs.eq_2, @kS.eq_1, @kS.eq_2, @kS.eq_3, @kO.eq_1, @kO.eq_2, @kL.eq_1, @kL.eq_2, @hit.eq_1, @hitL.eq_1, @hitL.eq_2⟩
theorem z9 : (∀ (i : Nat), fam i = i % 10000) ∧
  (∀ (x : Nat), look [] x = none) ∧
  (∀ (x j : Nat) (b : O) (r : List (Nat × O)), look ((j, b) :: r) x = if j = x then some b else look r x) ∧
  (∀ (x : Nat), rem [] x = []) ∧
  (∀ (x j : Nat) (b : O) (r : List (Nat × O)),
  rem ((j, b) :: r) x = if j = x then rem r x else (j, b) :: rem r x) ∧
  (∀ (L : Ob) (i : Nat) (b : O), setL L i b = (i, b) :: rem L i) ∧
  (∀ (n : Nat) (f : Rg) (v : S) (d_2 : Nat), put n f (some d_2) v = if d_2 < n then upd f d_2 v else f) ∧
  (∀ (n : Nat) (f : Rg) (v : S), put n f none v = f) ∧
  (∀ (f : Rg) (t : Tmp), ev f (Operand.tmp t) = f t) ∧
  (∀ (f : Rg) (v : Value), ev f (Operand.const v) = S.c (C.v v)) ∧
  (∀ (f : Rg) (g : Nat), ev f (Operand.global g) = S.c (C.v (Value.pointer (some { block := g, off := 0 })))) ∧
  (∀ (f : Rg) (g : FuncId), ev f (Operand.func g) = S.c (C.fn g [] [])) ∧
  (∀ (x : Nat), expC x [] = []) ∧
  (∀ (x : Nat) (r : List C) (ty : TypeId) (m : Nat) (ds : List D) (F : Fp),
  expC x (C.ow ty m ds F :: r) = C.s x m :: expC (x + 10000) r) ∧
  (∀ (x : Nat) (x_2 : C) (r : List C),
  (∀ (ty : TypeId) (m : Nat) (ds : List D) (F : Fp), x_2 = C.ow ty m ds F → False) →
    expC x (x_2 :: r) = x_2 :: expC (x + 10000) r) ∧
  (∀ (x : Nat), expO x [] = []) ∧
  (∀ (x : Nat) (r : List C) (ty : TypeId) (m : Nat) (ds : List D) (F : Fp),
  expO x (C.ow ty m ds F :: r) = [(x, O.arr ty m ds F)] ++ expO (x + 10000) r) ∧
  (∀ (x : Nat) (x_2 : C) (r : List C),
  (∀ (ty : TypeId) (m : Nat) (ds : List D) (F : Fp), x_2 = C.ow ty m ds F → False) →
    expO x (x_2 :: r) = [] ++ expO (x + 10000) r) ∧
  (∀ (x : Nat), expT x [] = []) ∧
  (∀ (x : Nat) (cs : List C) (t : Bool) (r : List (List C × Bool)),
  expT x ((cs, t) :: r) = (expC x cs, t) :: expT (x + 10000 * List.length cs) r) ∧
  (∀ (x_1 : C), cellsS (S.c x_1) = [x_1]) ∧
  (∀ (cs : List C), cellsS (S.ag cs) = cs) ∧
  (∀ (xs : List (List C × Bool)), cellsS (S.tu xs) = List.flatMap (fun x => Prod.fst x) xs) ∧
  (∀ (b : Nat) (x_1 : C),
  expS b (S.c x_1) =
    match expC b [x_1] with
    | [y] => S.c y
    | x => S.c C.dead) :=
  ⟨@fam.eq_1, @look.eq_1, @look.eq_2, @rem.eq_1, @rem.eq_2, @setL.eq_1, @put.eq_1, @put.eq_2, @ev.eq_1, @ev.eq_2, @ev.eq_3, @ev.eq_4, @expC.eq_1, @expC.eq_2, @expC.eq_3, @expO.eq_1, @expO.eq_2, @expO.eq_3, @expT.eq_1, @expT.eq_2, @cellsS.eq_1, @cellsS.eq_2, @cellsS.eq_3, @expS.eq_1⟩
theorem z10 : (∀ (b : Nat) (cs : List C), expS b (S.ag cs) = S.ag (expC b cs)) ∧
  (∀ (b : Nat) (xs : List (List C × Bool)), expS b (S.tu xs) = S.tu (expT b xs)) ∧
  (∀ (x : Nat), expA x [] = []) ∧
  (∀ (x : Nat) (x_2 : S) (r : List S), expA x (x_2 :: r) = expS x x_2 :: expA (x + 1) r) ∧
  (∀ (x : Nat), expAO x [] = []) ∧
  (∀ (x : Nat) (x_2 : S) (r : List S), expAO x (x_2 :: r) = expO x (cellsS x_2) ++ expAO (x + 1) r) ∧
  (∀ (x : Nat), expB x [] = []) ∧
  (∀ (x : Nat) (cs : List C) (r : List (List C)),
  expB x (cs :: r) = (9000 + x, O.str (expC (9200 + x) cs)) :: (expO (9200 + x) cs ++ expB (x + 1) r)) ∧
  (∀ (args : List S) (objs : List (List C)), lent args objs = expAO 9500 args ++ expB 0 objs) ∧
  (∀ (r : S) (objs : List (List C)), back r objs = expO 9700 (cellsS r) ++ expB 0 objs) ∧
  (∀ (n : Nat) (ds : List D) (F : List (List Nat)), fpC (C.sl n ds (some F)) = F) ∧
  (∀ (ty : TypeId) (n : Nat) (ds : List D) (F : List (List Nat)), fpC (C.ow ty n ds (some F)) = F) ∧
  (∀ (x : C),
  (∀ (n : Nat) (ds : List D) (F : List (List Nat)), x = C.sl n ds (some F) → False) →
    (∀ (ty : TypeId) (n : Nat) (ds : List D) (F : List (List Nat)), x = C.ow ty n ds (some F) → False) → fpC x = []) ∧
  (fpL [] = []) ∧
  (∀ (x_1 : C) (r : List C), fpL (x_1 :: r) = fpC x_1 ++ fpL r) ∧
  (fpB [] = []) ∧
  (∀ (x_1 : List C) (r : List (List C)), fpB (x_1 :: r) = fpL x_1 ++ fpB r) ∧
  (∀ (r : S) (objs : List (List C)), fps r objs = fpL (cellsS r) ++ fpB objs) ∧
  (∀ (x_1 : Value), flatC (C.v x_1) = true) ∧
  (∀ (n : Nat) (ds : List D) (F : Fp), flatC (C.sl n ds F) = true) ∧
  (∀ (ty : TypeId) (n : Nat) (ds : List D) (F : Fp), flatC (C.ow ty n ds F) = true) ∧
  (flatC C.dead = true) ∧
  (flatC C.self = true) ∧
  (∀ (x : C),
  (∀ (x_1 : Value), x = C.v x_1 → False) →
    (∀ (n : Nat) (ds : List D) (F : Fp), x = C.sl n ds F → False) →
      (∀ (ty : TypeId) (n : Nat) (ds : List D) (F : Fp), x = C.ow ty n ds F → False) →
        (x = C.dead → False) → (x = C.self → False) → flatC x = false) :=
  ⟨@expS.eq_2, @expS.eq_3, @expA.eq_1, @expA.eq_2, @expAO.eq_1, @expAO.eq_2, @expB.eq_1, @expB.eq_2, @lent.eq_1, @back.eq_1, @fpC.eq_1, @fpC.eq_2, @fpC.eq_3, @fpL.eq_1, @fpL.eq_2, @fpB.eq_1, @fpB.eq_2, @fps.eq_1, @flatC.eq_1, @flatC.eq_2, @flatC.eq_3, @flatC.eq_4, @flatC.eq_5, @flatC.eq_6⟩
theorem z11 : (flatL [] = true) ∧
  (∀ (x_1 : C) (r : List C), flatL (x_1 :: r) = (flatC x_1 && flatL r)) ∧
  (flatB [] = true) ∧
  (∀ (x_1 : List C) (r : List (List C)),
  flatB (x_1 :: r) = (flatL x_1 && decide (List.length x_1 ≤ 900) && flatB r)) ∧
  (∀ (r : S) (objs : List (List C)),
  flat r objs =
    (flatL (cellsS r) && decide (List.length (cellsS r) ≤ 900) && flatB objs && decide (List.length objs ≤ 50))) ∧
  (∀ (x : Nat), lk [] x = none) ∧
  (∀ (x j i : Nat) (r : List (Nat × Nat)), lk ((j, i) :: r) x = if j = x then some i else lk r x) ∧
  (∀ (i : Nat) (r : List Nat) (j : Nat) (t : List Nat), zipN (i :: r) (j :: t) = (j, i) :: zipN r t) ∧
  (∀ (x x_1 : List Nat),
  (∀ (i : Nat) (r : List Nat) (j : Nat) (t : List Nat), x = i :: r → x_1 = j :: t → False) → zipN x x_1 = []) ∧
  (∀ (i off j off_1 : Nat), rhoC (C.p i off) (C.p j off_1) = [(j, i)]) ∧
  (∀ (i n j n_1 : Nat), rhoC (C.s i n) (C.s j n_1) = [(j, i)]) ∧
  (∀ (g : FuncId) (a b : List Nat) (g_1 : FuncId) (a' b' : List Nat),
  rhoC (C.fn g a b) (C.fn g_1 a' b') = zipN a a' ++ zipN b b') ∧
  (∀ (x x_1 : C),
  (∀ (i off j off_1 : Nat), x = C.p i off → x_1 = C.p j off_1 → False) →
    (∀ (i n j n_1 : Nat), x = C.s i n → x_1 = C.s j n_1 → False) →
      (∀ (g : FuncId) (a b : List Nat) (g_1 : FuncId) (a' b' : List Nat),
          x = C.fn g a b → x_1 = C.fn g_1 a' b' → False) →
        rhoC x x_1 = []) ∧
  (∀ (x_2 : C) (r : List C) (y : C) (t : List C), rhoL (x_2 :: r) (y :: t) = rhoC x_2 y ++ rhoL r t) ∧
  (∀ (x x_1 : List C),
  (∀ (x_2 : C) (r : List C) (y : C) (t : List C), x = x_2 :: r → x_1 = y :: t → False) → rhoL x x_1 = []) ∧
  (∀ (x_2 y : C), rhoS (S.c x_2) (S.c y) = rhoC x_2 y) ∧
  (∀ (a b : List C), rhoS (S.ag a) (S.ag b) = rhoL a b) ∧
  (∀ (x x_1 : S),
  (∀ (x_2 y : C), x = S.c x_2 → x_1 = S.c y → False) →
    (∀ (a b : List C), x = S.ag a → x_1 = S.ag b → False) → rhoS x x_1 = []) ∧
  (∀ (x_2 : S) (r : List S) (y : S) (t : List S), rhoA (x_2 :: r) (y :: t) = rhoS x_2 y ++ rhoA r t) ∧
  (∀ (x x_1 : List S),
  (∀ (x_2 : S) (r : List S) (y : S) (t : List S), x = x_2 :: r → x_1 = y :: t → False) → rhoA x x_1 = []) ∧
  (∀ (L : Ob) (x : List (Nat × Nat)), rhoB L x [] = x) ∧
  (∀ (L : Ob) (x : List (Nat × Nat)) (j : Nat) (cs : List C) (r : List (Nat × O)),
  rhoB L x ((j, O.str cs) :: r) =
    match lk x j with
    | some i =>
      match look L i with
      | some (O.str cs') => rhoB L (x ++ rhoL cs' cs) r
      | x_1 => rhoB L x r
    | none => rhoB L x r) ∧
  (∀ (L : Ob) (x : List (Nat × Nat)) (fst : Nat) (ty : TypeId) (n : Nat) (ds : List D) (F : Fp)
  (r : List (Nat × O)), rhoB L x ((fst, O.arr ty n ds F) :: r) = rhoB L x r) ∧
  (∀ (L : Ob) (sargs args : List S) (objs : List (List C)),
  rho L sargs args objs = rhoB L (rhoA sargs (expA 9500 args)) (lent args objs)) :=
  ⟨@flatL.eq_1, @flatL.eq_2, @flatB.eq_1, @flatB.eq_2, @flat.eq_1, @lk.eq_1, @lk.eq_2, @zipN.eq_1, @zipN.eq_2, @rhoC.eq_1, @rhoC.eq_2, @rhoC.eq_3, @rhoC.eq_4, @rhoL.eq_1, @rhoL.eq_2, @rhoS.eq_1, @rhoS.eq_2, @rhoS.eq_3, @rhoA.eq_1, @rhoA.eq_2, @rhoB.eq_1, @rhoB.eq_2, @rhoB.eq_3, @rho.eq_1⟩
theorem z12 : (∀ (ρ : List (Nat × Nat)), lePs ρ [] [] = True) ∧
  (∀ (ρ : List (Nat × Nat)) (i : Nat) (r : List Nat) (j : Nat) (t : List Nat),
  lePs ρ (i :: r) (j :: t) = (lk ρ j = some i ∧ lePs ρ r t)) ∧
  (∀ (ρ : List (Nat × Nat)) (x x_1 : List Nat),
  (x = [] → x_1 = [] → False) →
    (∀ (i : Nat) (r : List Nat) (j : Nat) (t : List Nat), x = i :: r → x_1 = j :: t → False) → lePs ρ x x_1 = False) ∧
  (∀ (ρ : List (Nat × Nat)) (L : Ob) (x : C), leC ρ L x C.dead = True) ∧
  (∀ (ρ : List (Nat × Nat)) (L : Ob), leC ρ L C.self C.self = True) ∧
  (∀ (ρ : List (Nat × Nat)) (L : Ob) (m : Nat) (ds : List D) (F : Fp),
  leC ρ L (C.v (Value.slice none 0 0)) (C.sl m ds F) = (m = 0 ∧ ds = [])) ∧
  (∀ (ρ : List (Nat × Nat)) (L : Ob) (j m : Nat),
  leC ρ L (C.v (Value.slice none 0 0)) (C.s j m) = (m = 0 ∧ lk ρ j = none)) ∧
  (∀ (ρ : List (Nat × Nat)) (L : Ob) (x_2 y : Value), leC ρ L (C.v x_2) (C.v y) = (x_2 = y)) ∧
  (∀ (ρ : List (Nat × Nat)) (L : Ob) (m : Nat) (ds : List D) (F : Fp) (m' : Nat) (ds' : List D) (F' : Fp),
  leC ρ L (C.sl m ds F) (C.sl m' ds' F') = (m = m' ∧ ds = ds' ∧ (F' = none ∨ F' = F))) ∧
  (∀ (ρ : List (Nat × Nat)) (L : Ob) (i m m' : Nat) (ds' : List D),
  leC ρ L (C.s i m) (C.sl m' ds' none) =
    match look L i with
    | some (O.arr ty n ds F) => n = m ∧ m = m' ∧ ds = ds'
    | x => False) ∧
  (∀ (ρ : List (Nat × Nat)) (L : Ob) (i m j m' : Nat), leC ρ L (C.s i m) (C.s j m') = (m = m' ∧ lk ρ j = some i)) ∧
  (∀ (ρ : List (Nat × Nat)) (L : Ob) (i o j o' : Nat), leC ρ L (C.p i o) (C.p j o') = (o = o' ∧ lk ρ j = some i)) ∧
  (∀ (ρ : List (Nat × Nat)) (L : Ob) (ds ds' : List D), leC ρ L (C.q ds) (C.q ds') = (ds = ds')) ∧
  (∀ (ρ : List (Nat × Nat)) (L : Ob) (g : FuncId) (a b : List Nat) (g' : FuncId) (a' b' : List Nat),
  leC ρ L (C.fn g a b) (C.fn g' a' b') = (g = g' ∧ lePs ρ a a' ∧ lePs ρ b b')) ∧
  (∀ (ρ : List (Nat × Nat)) (L : Ob) (x x_1 : C),
  (x_1 = C.dead → False) →
    (x = C.self → x_1 = C.self → False) →
      (∀ (m : Nat) (ds : List D) (F : Fp), x = C.v (Value.slice none 0 0) → x_1 = C.sl m ds F → False) →
        (∀ (j m : Nat), x = C.v (Value.slice none 0 0) → x_1 = C.s j m → False) →
          (∀ (x_2 y : Value), x = C.v x_2 → x_1 = C.v y → False) →
            (∀ (m : Nat) (ds : List D) (F : Fp) (m' : Nat) (ds' : List D) (F' : Fp),
                x = C.sl m ds F → x_1 = C.sl m' ds' F' → False) →
              (∀ (i m m' : Nat) (ds' : List D), x = C.s i m → x_1 = C.sl m' ds' none → False) →
                (∀ (i m j m' : Nat), x = C.s i m → x_1 = C.s j m' → False) →
                  (∀ (i o j o' : Nat), x = C.p i o → x_1 = C.p j o' → False) →
                    (∀ (ds ds' : List D), x = C.q ds → x_1 = C.q ds' → False) →
                      (∀ (g : FuncId) (a b : List Nat) (g' : FuncId) (a' b' : List Nat),
                          x = C.fn g a b → x_1 = C.fn g' a' b' → False) →
                        leC ρ L x x_1 = False) ∧
  (∀ (ρ : List (Nat × Nat)) (L : Ob), leL ρ L [] [] = True) ∧
  (∀ (ρ : List (Nat × Nat)) (L : Ob) (x_2 : C) (r : List C) (y : C) (t : List C),
  leL ρ L (x_2 :: r) (y :: t) = (leC ρ L x_2 y ∧ leL ρ L r t)) ∧
  (∀ (ρ : List (Nat × Nat)) (L : Ob) (x x_1 : List C),
  (x = [] → x_1 = [] → False) →
    (∀ (x_2 : C) (r : List C) (y : C) (t : List C), x = x_2 :: r → x_1 = y :: t → False) → leL ρ L x x_1 = False) ∧
  (∀ (ρ : List (Nat × Nat)) (L : Ob) (x_2 y : C), leS ρ L (S.c x_2) (S.c y) = leC ρ L x_2 y) ∧
  (∀ (ρ : List (Nat × Nat)) (L : Ob) (a b : List C), leS ρ L (S.ag a) (S.ag b) = leL ρ L a b) ∧
  (∀ (ρ : List (Nat × Nat)) (L : Ob) (x x_1 : S),
  (∀ (x_2 y : C), x = S.c x_2 → x_1 = S.c y → False) →
    (∀ (a b : List C), x = S.ag a → x_1 = S.ag b → False) → leS ρ L x x_1 = False) ∧
  (∀ (ρ : List (Nat × Nat)) (L : Ob), leA ρ L [] [] = True) ∧
  (∀ (ρ : List (Nat × Nat)) (L : Ob) (x_2 : S) (r : List S) (y : S) (t : List S),
  leA ρ L (x_2 :: r) (y :: t) = (leS ρ L x_2 y ∧ leA ρ L r t)) ∧
  (∀ (ρ : List (Nat × Nat)) (L : Ob) (x x_1 : List S),
  (x = [] → x_1 = [] → False) →
    (∀ (x_2 : S) (r : List S) (y : S) (t : List S), x = x_2 :: r → x_1 = y :: t → False) → leA ρ L x x_1 = False) :=
  ⟨@lePs.eq_1, @lePs.eq_2, @lePs.eq_3, @leC.eq_1, @leC.eq_2, @leC.eq_3, @leC.eq_4, @leC.eq_5, @leC.eq_6, @leC.eq_7, @leC.eq_8, @leC.eq_9, @leC.eq_10, @leC.eq_11, @leC.eq_12, @leL.eq_1, @leL.eq_2, @leL.eq_3, @leS.eq_1, @leS.eq_2, @leS.eq_3, @leA.eq_1, @leA.eq_2, @leA.eq_3⟩
theorem z13 : (∀ (ρ : List (Nat × Nat)) (L : Ob) (a b : List C), leO ρ L (O.str a) (O.str b) = leL ρ L a b) ∧
  (∀ (ρ : List (Nat × Nat)) (L : Ob) (ty : TypeId) (m : Nat) (ds : List D) (F : Fp) (ty' : TypeId) (m' : Nat)
  (ds' : List D) (F' : Fp),
  leO ρ L (O.arr ty m ds F) (O.arr ty' m' ds' F') = (ty = ty' ∧ m = m' ∧ ds = ds' ∧ (F' = none ∨ F' = F))) ∧
  (∀ (ρ : List (Nat × Nat)) (L : Ob) (x x_1 : O),
  (∀ (a b : List C), x = O.str a → x_1 = O.str b → False) →
    (∀ (ty : TypeId) (m : Nat) (ds : List D) (F : Fp) (ty' : TypeId) (m' : Nat) (ds' : List D) (F' : Fp),
        x = O.arr ty m ds F → x_1 = O.arr ty' m' ds' F' → False) →
      leO ρ L x x_1 = False) ∧
  (∀ (ρ : List (Nat × Nat)) (L : Ob), leB ρ L [] = True) ∧
  (∀ (ρ : List (Nat × Nat)) (L : Ob) (j : Nat) (r : List (Nat × O)) (ty : TypeId) (m : Nat) (ds : List D)
  (F : Fp),
  leB ρ L ((j, O.arr ty m ds F) :: r) =
    ((match lk ρ j with
      | some i =>
        match look L i with
        | some o' => leO ρ L o' (O.arr ty m ds F)
        | none => False
      | none => m = 0 ∧ ds = []) ∧
      leB ρ L r)) ∧
  (∀ (ρ : List (Nat × Nat)) (L : Ob) (j : Nat) (o : O) (r : List (Nat × O)),
  (∀ (ty : TypeId) (m : Nat) (ds : List D) (F : Fp), o = O.arr ty m ds F → False) →
    leB ρ L ((j, o) :: r) =
      ((match lk ρ j with
        | some i =>
          match look L i with
          | some o' => leO ρ L o' o
          | none => False
        | none => False) ∧
        leB ρ L r)) ∧
  (∀ (i n n_1 : Nat) (ds : List D) (F : Fp), brwC (C.s i n) (C.sl n_1 ds F) = [i]) ∧
  (∀ (x x_1 : C),
  (∀ (i n n_1 : Nat) (ds : List D) (F : Fp), x = C.s i n → x_1 = C.sl n_1 ds F → False) → brwC x x_1 = []) ∧
  (∀ (x_2 : C) (r : List C) (y : C) (t : List C), brwL (x_2 :: r) (y :: t) = brwC x_2 y ++ brwL r t) ∧
  (∀ (x x_1 : List C),
  (∀ (x_2 : C) (r : List C) (y : C) (t : List C), x = x_2 :: r → x_1 = y :: t → False) → brwL x x_1 = []) ∧
  (∀ (x_2 y : C), brwS (S.c x_2) (S.c y) = brwC x_2 y) ∧
  (∀ (a b : List C), brwS (S.ag a) (S.ag b) = brwL a b) ∧
  (∀ (x x_1 : S),
  (∀ (x_2 y : C), x = S.c x_2 → x_1 = S.c y → False) →
    (∀ (a b : List C), x = S.ag a → x_1 = S.ag b → False) → brwS x x_1 = []) ∧
  (∀ (x_2 : S) (r : List S) (y : S) (t : List S), brwA (x_2 :: r) (y :: t) = brwS x_2 y ++ brwA r t) ∧
  (∀ (x x_1 : List S),
  (∀ (x_2 : S) (r : List S) (y : S) (t : List S), x = x_2 :: r → x_1 = y :: t → False) → brwA x x_1 = []) ∧
  (∀ (L : Ob) (ρ : List (Nat × Nat)), brwB L ρ [] = []) ∧
  (∀ (L : Ob) (ρ : List (Nat × Nat)) (j : Nat) (cs : List C) (r : List (Nat × O)),
  brwB L ρ ((j, O.str cs) :: r) =
    (match lk ρ j with
      | some i =>
        match look L i with
        | some (O.str cs') => brwL cs' cs
        | x => []
      | none => []) ++
      brwB L ρ r) ∧
  (∀ (L : Ob) (ρ : List (Nat × Nat)) (fst : Nat) (ty : TypeId) (n : Nat) (ds : List D) (F : Fp)
  (r : List (Nat × O)), brwB L ρ ((fst, O.arr ty n ds F) :: r) = brwB L ρ r) ∧
  (∀ (L : Ob) (ρ : List (Nat × Nat)) (sargs args : List S) (objs : List (List C)),
  brw L ρ sargs args objs = brwA sargs (expA 9500 args) ++ brwB L ρ (lent args objs)) ∧
  (nodupB [] = true) ∧
  (∀ (i : Nat) (r : List Nat), nodupB (i :: r) = (!inN r i && nodupB r)) ∧
  (∀ (b : List Nat), disjB [] b = true) ∧
  (∀ (b : List Nat) (i : Nat) (r : List Nat), disjB (i :: r) b = (!inN b i && disjB r b)) ∧
  (∀ (n : Nat) (ds : List D), toldC (C.sl n ds none) = false) :=
  ⟨@leO.eq_1, @leO.eq_2, @leO.eq_3, @leB.eq_1, @leB.eq_2, @leB.eq_3, @brwC.eq_1, @brwC.eq_2, @brwL.eq_1, @brwL.eq_2, @brwS.eq_1, @brwS.eq_2, @brwS.eq_3, @brwA.eq_1, @brwA.eq_2, @brwB.eq_1, @brwB.eq_2, @brwB.eq_3, @brw.eq_1, @nodupB.eq_1, @nodupB.eq_2, @disjB.eq_1, @disjB.eq_2, @toldC.eq_1⟩
theorem z14 : (∀ (ty : TypeId) (n : Nat) (ds : List D), toldC (C.ow ty n ds none) = false) ∧
  (∀ (x : C),
  (∀ (n : Nat) (ds : List D), x = C.sl n ds none → False) →
    (∀ (ty : TypeId) (n : Nat) (ds : List D), x = C.ow ty n ds none → False) → toldC x = true) ∧
  (toldL [] = true) ∧
  (∀ (x_1 : C) (r : List C), toldL (x_1 :: r) = (toldC x_1 && toldL r)) ∧
  (toldB [] = true) ∧
  (∀ (x_1 : List C) (r : List (List C)), toldB (x_1 :: r) = (toldL x_1 && toldB r)) ∧
  (∀ (L : Ob), used L [] = []) ∧
  (∀ (L : Ob) (fst i : Nat) (r : List (Nat × Nat)),
  used L ((fst, i) :: r) =
    (match look L i with
      | some (O.arr ty n ds F) => [i]
      | x => []) ++
      used L r) ∧
  (∀ (d k : Nat), nk d k = d + 10000000 * (k + 1)) ∧
  (∀ (ρ : List (Nat × Nat)) (d x : Nat), strs ρ d x [] = []) ∧
  (∀ (ρ : List (Nat × Nat)) (d x : Nat) (cs : List C) (r : List (List C)),
  strs ρ d x (cs :: r) =
    (match lk ρ (9000 + x) with
      | some i => [(i, O.str (expC (nk d x) cs))]
      | none => []) ++
      (expO (nk d x) cs ++ strs ρ d (x + 1) r)) ∧
  (∀ (F ps : List (List Nat)), addP (some ps) F = some (ps ++ F)) ∧
  (∀ (F : List (List Nat)), addP none F = none) ∧
  (∀ (ρ : List (Nat × Nat)) (n d : Nat) (r : S) (objs : List (List C)) (K : K0) (f : Rg) (L : Ob) (p : Po),
  after ρ n d r objs K f L p =
    K (upd (kR [d] (used L ρ) f) d (expS (d + 10000) r))
      (expO (d + 10000) (cellsS r) ++ (strs ρ d 0 objs ++ kL [d] (used L ρ) L)) (addP p (fps r objs))) ∧
  (∀ (L : Ob) (d : Nat), famOk L d [] = true) ∧
  (∀ (L : Ob) (d fst i : Nat) (r : List (Nat × Nat)),
  famOk L d ((fst, i) :: r) =
    ((match look L i with
      | some (O.str cs) => !fam i == d
      | x => true) &&
      famOk L d r)) ∧
  (∀ (i j : Nat), renN i j [] = []) ∧
  (∀ (i j k : Nat) (r : List Nat), renN i j (k :: r) = (if k = i then j else k) :: renN i j r) ∧
  (∀ (i j k o : Nat), renC i j (C.p k o) = if k = i then C.p j o else C.p k o) ∧
  (∀ (i j k m : Nat), renC i j (C.s k m) = if k = i then C.s j m else C.s k m) ∧
  (∀ (i j : Nat) (g : FuncId) (a b : List Nat), renC i j (C.fn g a b) = C.fn g (renN i j a) (renN i j b)) ∧
  (∀ (i j : Nat) (x : C),
  (∀ (k o : Nat), x = C.p k o → False) →
    (∀ (k m : Nat), x = C.s k m → False) → (∀ (g : FuncId) (a b : List Nat), x = C.fn g a b → False) → renC i j x = x) ∧
  (∀ (i j : Nat), renCs i j [] = []) ∧
  (∀ (i j : Nat) (x_1 : C) (r : List C), renCs i j (x_1 :: r) = renC i j x_1 :: renCs i j r) :=
  ⟨@toldC.eq_2, @toldC.eq_3, @toldL.eq_1, @toldL.eq_2, @toldB.eq_1, @toldB.eq_2, @used.eq_1, @used.eq_2, @nk.eq_1, @strs.eq_1, @strs.eq_2, @addP.eq_1, @addP.eq_2, @after.eq_1, @famOk.eq_1, @famOk.eq_2, @renN.eq_1, @renN.eq_2, @renC.eq_1, @renC.eq_2, @renC.eq_3, @renC.eq_4, @renCs.eq_1, @renCs.eq_2⟩
theorem z15 : (∀ (i j : Nat), renTs i j [] = []) ∧
  (∀ (i j : Nat) (cs : List C) (b : Bool) (r : List (List C × Bool)),
  renTs i j ((cs, b) :: r) = (renCs i j cs, b) :: renTs i j r) ∧
  (∀ (i j : Nat) (x_1 : C), renS i j (S.c x_1) = S.c (renC i j x_1)) ∧
  (∀ (i j : Nat) (cs : List C), renS i j (S.ag cs) = S.ag (renCs i j cs)) ∧
  (∀ (i j : Nat) (xs : List (List C × Bool)), renS i j (S.tu xs) = S.tu (renTs i j xs)) ∧
  (∀ (i j : Nat) (cs : List C), renO i j (O.str cs) = O.str (renCs i j cs)) ∧
  (∀ (i j : Nat) (t : TypeId) (m : Nat) (ds : List D) (F : Fp), renO i j (O.arr t m ds F) = O.arr t m ds F) ∧
  (∀ (i j : Nat), renL i j [] = []) ∧
  (∀ (i j k : Nat) (b : O) (r : List (Nat × O)),
  renL i j ((k, b) :: r) = (if k = i then j else k, renO i j b) :: renL i j r) ∧
  (∀ (P : Program) (L : Ob) (f : Rg) (t : Tmp), resS P L f (ResultVar.tmp t) = some (f t)) ∧
  (∀ (P : Program) (L : Ob) (f : Rg) (p : Tmp) (ty : TypeId),
  resS P L f (ResultVar.cell p ty) =
    match f p with
    | S.c (C.p i 0) =>
      match look L i with
      | some (O.str cs) => mkS (tyS P ty) cs
      | x => none
    | x => none) ∧
  (∀ (P : Program) (L : Ob) (f : Rg), resAll P L f [] = some []) ∧
  (∀ (P : Program) (L : Ob) (f : Rg) (r : ResultVar) (rs : List ResultVar),
  resAll P L f (r :: rs) =
    match resS P L f r with
    | some s =>
      match resAll P L f rs with
      | some ss => some (s :: ss)
      | none => none
    | none => none) ∧
  (ownsS [] = none) ∧
  (∀ (cs : List C) (r : List S),
  ownsS (S.ag cs :: r) =
    match ownsC cs with
    | some i => some i
    | none => ownsS r) ∧
  (∀ (head : S) (r : List S), (∀ (cs : List C), head = S.ag cs → False) → ownsS (head :: r) = ownsS r) ∧
  (∀ (i m : Nat) (x : C), fSs i m x [] = []) ∧
  (∀ (i m : Nat) (x : C) (y : S) (r : List S), fSs i m x (y :: r) = fS i m x y :: fSs i m x r) ∧
  (∀ (x : List S) (x_1 : List S → K0), outS 0 x x_1 = fun x x_2 x_3 => False) ∧
  (∀ (x : List S) (x_1 : List S → K0) (fuel : Nat),
  outS (Nat.succ fuel) x x_1 =
    match ownsS x with
    | none => x_1 x
    | some i => frz i fun m x_2 => outS fuel (fSs i m x_2 x) x_1) ∧
  (∀ (s : S), wrapS [s] = some s) ∧
  (∀ (x : List S), (∀ (s : S), x = [s] → False) → wrapS x = Option.map S.tu (wrapS.compsS x)) ∧
  (wrapS.compsS [] = some []) ∧
  (∀ (x_1 : C) (r : List S),
  wrapS.compsS (S.c x_1 :: r) =
    match wrapS.compsS r with
    | some q => some (([x_1], true) :: q)
    | none => none) :=
  ⟨@renTs.eq_1, @renTs.eq_2, @renS.eq_1, @renS.eq_2, @renS.eq_3, @renO.eq_1, @renO.eq_2, @renL.eq_1, @renL.eq_2, @resS.eq_1, @resS.eq_2, @resAll.eq_1, @resAll.eq_2, @ownsS.eq_1, @ownsS.eq_2, @ownsS.eq_3, @fSs.eq_1, @fSs.eq_2, @outS.eq_1, @outS.eq_2, @wrapS.eq_1, @wrapS.eq_2, @wrapS.compsS.eq_1, @wrapS.compsS.eq_2⟩
theorem z16 : (∀ (cs : List C) (r : List S),
  wrapS.compsS (S.ag cs :: r) =
    match wrapS.compsS r with
    | some q => some ((cs, false) :: q)
    | none => none) ∧
  (∀ (xs : List (List C × Bool)) (tail : List S), wrapS.compsS (S.tu xs :: tail) = none) ∧
  (∀ (x : Nat), idp x 0 = []) ∧
  (∀ (x m : Nat), idp x (Nat.succ m) = (9000 + x, 9000 + x) :: idp (x + 1) m) ∧
  (∀ (ρ : List (Nat × Nat)) (L : Ob), leT ρ L [] [] = True) ∧
  (∀ (ρ : List (Nat × Nat)) (L : Ob) (a : List C) (t : Bool) (r : List (List C × Bool)) (b : List C) (u : Bool)
  (s : List (List C × Bool)), leT ρ L ((a, t) :: r) ((b, u) :: s) = (t = u ∧ leL ρ L a b ∧ leT ρ L r s)) ∧
  (∀ (ρ : List (Nat × Nat)) (L : Ob) (x x_1 : List (List C × Bool)),
  (x = [] → x_1 = [] → False) →
    (∀ (a : List C) (t : Bool) (r : List (List C × Bool)) (b : List C) (u : Bool) (s : List (List C × Bool)),
        x = (a, t) :: r → x_1 = (b, u) :: s → False) →
      leT ρ L x x_1 = False) ∧
  (∀ (ρ : List (Nat × Nat)) (L : Ob) (x_2 y : C), leR ρ L (S.c x_2) (S.c y) = leC ρ L x_2 y) ∧
  (∀ (ρ : List (Nat × Nat)) (L : Ob) (a b : List C), leR ρ L (S.ag a) (S.ag b) = leL ρ L a b) ∧
  (∀ (ρ : List (Nat × Nat)) (L : Ob) (a b : List (List C × Bool)), leR ρ L (S.tu a) (S.tu b) = leT ρ L a b) ∧
  (∀ (ρ : List (Nat × Nat)) (L : Ob) (x x_1 : S),
  (∀ (x_2 y : C), x = S.c x_2 → x_1 = S.c y → False) →
    (∀ (a b : List C), x = S.ag a → x_1 = S.ag b → False) →
      (∀ (a b : List (List C × Bool)), x = S.tu a → x_1 = S.tu b → False) → leR ρ L x x_1 = False) ∧
  (∀ (a : List C) (snd : Bool) (r : List (List C × Bool)) (b : List C) (snd_1 : Bool)
  (s : List (List C × Bool)), rhoT ((a, snd) :: r) ((b, snd_1) :: s) = rhoL a b ++ rhoT r s) ∧
  (∀ (x x_1 : List (List C × Bool)),
  (∀ (a : List C) (snd : Bool) (r : List (List C × Bool)) (b : List C) (snd_1 : Bool) (s : List (List C × Bool)),
      x = (a, snd) :: r → x_1 = (b, snd_1) :: s → False) →
    rhoT x x_1 = []) ∧
  (∀ (x_2 y : C), rhoR (S.c x_2) (S.c y) = rhoC x_2 y) ∧
  (∀ (a b : List C), rhoR (S.ag a) (S.ag b) = rhoL a b) ∧
  (∀ (a b : List (List C × Bool)), rhoR (S.tu a) (S.tu b) = rhoT a b) ∧
  (∀ (x x_1 : S),
  (∀ (x_2 y : C), x = S.c x_2 → x_1 = S.c y → False) →
    (∀ (a b : List C), x = S.ag a → x_1 = S.ag b → False) →
      (∀ (a b : List (List C × Bool)), x = S.tu a → x_1 = S.tu b → False) → rhoR x x_1 = []) ∧
  (∀ (L : Ob) (s r : S) (nobj : Nat) (objs : List (List C)),
  rhoE L s r nobj objs = rhoB L (idp 0 nobj ++ rhoR s (expS 9700 r)) (back r objs)) ∧
  (∀ (a : List C) (snd : Bool) (r : List (List C × Bool)) (b : List C) (snd_1 : Bool)
  (s : List (List C × Bool)), brwT ((a, snd) :: r) ((b, snd_1) :: s) = brwL a b ++ brwT r s) ∧
  (∀ (x x_1 : List (List C × Bool)),
  (∀ (a : List C) (snd : Bool) (r : List (List C × Bool)) (b : List C) (snd_1 : Bool) (s : List (List C × Bool)),
      x = (a, snd) :: r → x_1 = (b, snd_1) :: s → False) →
    brwT x x_1 = []) ∧
  (∀ (x_2 y : C), brwR (S.c x_2) (S.c y) = brwC x_2 y) ∧
  (∀ (a b : List C), brwR (S.ag a) (S.ag b) = brwL a b) ∧
  (∀ (a b : List (List C × Bool)), brwR (S.tu a) (S.tu b) = brwT a b) ∧
  (∀ (x x_1 : S),
  (∀ (x_2 y : C), x = S.c x_2 → x_1 = S.c y → False) →
    (∀ (a b : List C), x = S.ag a → x_1 = S.ag b → False) →
      (∀ (a b : List (List C × Bool)), x = S.tu a → x_1 = S.tu b → False) → brwR x x_1 = []) :=
  ⟨@wrapS.compsS.eq_3, @wrapS.compsS.eq_4, @idp.eq_1, @idp.eq_2, @leT.eq_1, @leT.eq_2, @leT.eq_3, @leR.eq_1, @leR.eq_2, @leR.eq_3, @leR.eq_4, @rhoT.eq_1, @rhoT.eq_2, @rhoR.eq_1, @rhoR.eq_2, @rhoR.eq_3, @rhoR.eq_4, @rhoE.eq_1, @brwT.eq_1, @brwT.eq_2, @brwR.eq_1, @brwR.eq_2, @brwR.eq_3, @brwR.eq_4⟩
theorem z17 : (∀ (L : Ob) (ρ : List (Nat × Nat)) (s r : S) (objs : List (List C)),
  brwE L ρ s r objs = brwR s (expS 9700 r) ++ brwB L ρ (back r objs)) ∧
  (∀ (F : List (List Nat)), inPool none F = (F = [])) ∧
  (∀ (F ps : List (List Nat)), inPool (some ps) F = Sb (List.flatten F) (List.flatten ps)) ∧
  (∀ (x : List S) (x_1 : List S → K0), frzL [] x x_1 = x_1 x) ∧
  (∀ (x : List S) (x_1 : List S → K0) (i : Nat) (r : List Nat),
  frzL (i :: r) x x_1 = frz i fun m x_2 => frzL r (fSs i m x_2 x) x_1) ∧
  (∀ (P : Program) (rs : List ResultVar) (nobj : Nat) (R : S → List (List C) → Prop) (f : Rg) (L : Ob)
  (p : Po),
  dRet P rs nobj R f L p =
    match resAll P L f rs with
    | some ss =>
      outS 12 ss
        (fun ss x L p =>
          match wrapS ss with
          | some s => ∃ r objs, R r objs ∧ EndOk L p s r nobj objs
          | none => False)
        f L p
    | none => False) ∧
  (∀ (P : Program) (rs : List ResultVar) (R : List C → Prop) (f : Rg) (L : Ob) (p : Po),
  dRetN P rs R f L p =
    match resAll P L f rs with
    | some [S.c (C.p i 0)] => ∃ cs, look L i = some (O.str cs) ∧ plainL cs = true ∧ R cs
    | x => False) ∧
  (∀ (x_1 : Value), plainC (C.v x_1) = true) ∧
  (∀ (n : Nat) (ds : List D), plainC (C.sl n ds none) = true) ∧
  (∀ (x : C),
  (∀ (x_1 : Value), x = C.v x_1 → False) → (∀ (n : Nat) (ds : List D), x = C.sl n ds none → False) → plainC x = false) ∧
  (plainL [] = true) ∧
  (∀ (x_1 : C) (r : List C), plainL (x_1 :: r) = (plainC x_1 && plainL r)) ∧
  (∀ (P : Program) (n : Nat) (d : Option Nat) (T : TypeId) (K : K0) (f : Rg) (L : Ob) (p : Po) (b b_1 : Int),
  dMake P n d T (S.c (C.v (Value.int IntKind.i64 b))) (S.c (C.v (Value.int IntKind.i64 b_1))) K f L p =
    match elemZ P T with
    | some (e, sz, bytes, zd) =>
      0 ≤ b ∧
        b = b_1 ∧
          0 < sz ∧
            b_1 * ↑bytes ≤ 140737488355328 ∧
              b_1 ≤ 9223372036854775807 ∧
                create n d []
                  (O.arr e (Int.toNat b) (List.flatten (List.replicate (Int.toNat b) zd)) (tell p (some [])))
                  (fun d => C.s d (Int.toNat b)) K f L p
    | none => False) ∧
  (∀ (P : Program) (n : Nat) (d : Option Nat) (T : TypeId) (c : S) (K : K0) (f : Rg) (L : Ob) (p : Po)
  (b : Int),
  (∀ (b : Int), c = S.c (C.v (Value.int IntKind.i64 b)) → False) →
    dMake P n d T (S.c (C.v (Value.int IntKind.i64 b))) c K f L p = False) ∧
  (∀ (P : Program) (n : Nat) (d : Option Nat) (T : TypeId) (l c : S) (K : K0) (f : Rg) (L : Ob) (p : Po),
  (∀ (b : Int), l = S.c (C.v (Value.int IntKind.i64 b)) → False) → dMake P n d T l c K f L p = False) ∧
  (∀ (P : Program) (g : FuncId) (sargs : List S) (n : Nat) (d : Option Nat) (K : K0),
  CallK P g sargs n d K = CallQ false P g sargs n d K) ∧
  (fpD [] = some []) ∧
  (∀ (v : Value) (r : List D), fpD (D.lit v :: r) = fpD r) ∧
  (∀ (n : Nat) (ds tail : List D), fpD (D.sl n ds :: tail) = none) ∧
  (pln [] = Plan.done) ∧
  (∀ (x_1 : Nat) (r : List Nat),
  pln (x_1 :: r) = if x_1 % 2 = 0 then Plan.take (x_1 / 2) (pln r) else Plan.br (x_1 / 2) (pln r) Plan.nobr) ∧
  (sizeTS TS.one = 1) ∧
  (∀ (c : Nat), sizeTS (TS.agg c) = c) ∧
  (sizeTS TS.bad = 0) :=
  ⟨@brwE.eq_1, @inPool.eq_1, @inPool.eq_2, @frzL.eq_1, @frzL.eq_2, @dRet.eq_1, @dRetN.eq_1, @plainC.eq_1, @plainC.eq_2, @plainC.eq_3, @plainL.eq_1, @plainL.eq_2, @dMake.eq_1, @dMake.eq_2, @dMake.eq_3, @CallK.eq_1, @fpD.eq_1, @fpD.eq_2, @fpD.eq_3, @pln.eq_1, @pln.eq_2, @Go.Vc.sizeTS.eq_1, @Go.Vc.sizeTS.eq_2, @Go.Vc.sizeTS.eq_3⟩
theorem z18 : (∀ {α : Type} (cs : List α) (off : Nat) (ys : List α),
  splice cs off ys = List.take off cs ++ (ys ++ List.drop (off + List.length ys) cs)) ∧
  (dstsOps [] = []) ∧
  (∀ (o : Oper) (r : List Oper),
  dstsOps (o :: r) =
    match Oper.dst o with
    | some d => d :: dstsOps r
    | none => dstsOps r) ∧
  (∀ (id : Nat) (ops : Array Oper) (draw : Bool), dsts (Code.region id ops draw) = dstsOps (Array.toList ops)) ∧
  (∀ (a b : Code), dsts (Code.seq a b) = dsts a ++ dsts b) ∧
  (∀ (c : Operand) (a b : Code), dsts (Code.cond c a b) = dsts a ++ dsts b) ∧
  (∀ (id : Nat) (c : Code), dsts (Code.block id c) = dsts c) ∧
  (∀ (c : Code), dsts (Code.loop c) = dsts c) ∧
  (∀ (c : Code), dsts (Code.scope c) = dsts c) ∧
  (∀ (x : Code),
  (∀ (id : Nat) (ops : Array Oper) (draw : Bool), x = Code.region id ops draw → False) →
    (∀ (a b : Code), x = Code.seq a b → False) →
      (∀ (c : Operand) (a b : Code), x = Code.cond c a b → False) →
        (∀ (id : Nat) (c : Code), x = Code.block id c → False) →
          (∀ (c : Code), x = Code.loop c → False) → (∀ (c : Code), x = Code.scope c → False) → dsts x = []) ∧
  (∀ (xs : List Nat) (o : Oper),
  inX xs o =
    match Oper.dst o with
    | some d => List.contains xs d
    | none => false) ∧
  (∀ (P : Program) (T : TypeId),
  zeroOk P T =
    match elemS P T with
    | some (e, sz, snd) => Option.isSome (Vc.zerosOf P e sz 1)
    | none => true) ∧
  (∀ (x : Nat), inN [] x = false) ∧
  (∀ (x w : Nat) (ws : List Nat), inN (w :: ws) x = if w = x then true else inN ws x) :=
  ⟨@Go.Vc.splice.eq_1, @Go.Vc.dstsOps.eq_1, @Go.Vc.dstsOps.eq_2, @Go.Vc.dsts.eq_1, @Go.Vc.dsts.eq_2, @Go.Vc.dsts.eq_3, @Go.Vc.dsts.eq_4, @Go.Vc.dsts.eq_5, @Go.Vc.dsts.eq_6, @Go.Vc.dsts.eq_7, @Go.Vc.inX.eq_1, @Go.Vc.zeroOk.eq_1, @Go.Vc.inN.eq_1, @Go.Vc.inN.eq_2⟩
end Go.Dv

namespace Go.Dv
open Go Go.RowKit
open Go.Vc (okV Plan)

/-! ## Loops, drawn regions -/
def dLoop0 (ws : List Nat) (body : KE → K0) (K : KE) : K0 := fun f L p0 => ∃ (L1 : Ob) (p1 : Po) (I : Rg → Ob → Po → Prop) (μ : Rg → Ob → Po → Nat), SubO L1 L ∧ PoSub p0 p1 ∧ I (mixR ws f f) L1 p1 ∧
    ((∀ g L2 p2, I (mixR ws f g) L2 p2 → body (fun e f' L' p' => match e with
      | .normal => ∃ L3 p3, SubO L3 L' ∧ PoSub p' p3 ∧ I (mixR ws f f') L3 p3 ∧ μ (mixR ws f f') L3 p3 < μ (mixR ws f g) L2 p2
      | e => K e f' L' p') (mixR ws f g) L2 p2) ∨
     (∀ g L2 p2, I (mixR ws f g) L2 p2 → body (fun e f' L' p' => match e with
      | .normal => ∃ hs : List Gh, ghs ws hs (fun f' L' => ∃ L3 p3, SubO L3 L' ∧ PoSub p' p3 ∧ I (mixR ws f f') L3 p3 ∧ μ (mixR ws f f') L3 p3 < μ (mixR ws f g) L2 p2) f' L'
      | e => K e f' L' p') (mixR ws f g) L2 p2))
section
variable {ws : List Nat} {body : KE → K0} {K : KE} {f : Rg} {L : Ob} {p : Po}
theorem dLoop.gh (gs : List Gh) (h : ghs ws gs (fun f L => dLoop0 ws body K f L p) f L) : dLoop ws body K f L p := ⟨gs, h⟩
theorem dLoop0.intro (I : Rg → Ob → Po → Prop) (μ : Rg → Ob → Po → Nat) (L1 : Ob) (p1 : Po) (h0 : SubO L1 L ∧ PoSub p p1 ∧ I (mixR ws f f) L1 p1)
    (h1 : ∀ g L2 p2, I (mixR ws f g) L2 p2 → body (fun e f' L' p' => match e with
      | .normal => ∃ L3 p3, SubO L3 L' ∧ PoSub p' p3 ∧ I (mixR ws f f') L3 p3 ∧ μ (mixR ws f f') L3 p3 < μ (mixR ws f g) L2 p2
      | e => K e f' L' p') (mixR ws f g) L2 p2) : dLoop0 ws body K f L p := ⟨L1, p1, I, μ, h0.1, h0.2.1, h0.2.2, .inl h1⟩
/-- A loop whose rounds end with numbers turned. -/
theorem dLoop0.introR (I : Rg → Ob → Po → Prop) (μ : Rg → Ob → Po → Nat) (L1 : Ob) (p1 : Po) (h0 : SubO L1 L ∧ PoSub p p1 ∧ I (mixR ws f f) L1 p1)
    (h1 : ∀ g L2 p2, I (mixR ws f g) L2 p2 → body (fun e f' L' p' => match e with
      | .normal => ∃ hs : List Gh, ghs ws hs (fun f' L' => ∃ L3 p3, SubO L3 L' ∧ PoSub p' p3 ∧ I (mixR ws f f') L3 p3 ∧ μ (mixR ws f f') L3 p3 < μ (mixR ws f g) L2 p2) f' L'
      | e => K e f' L' p') (mixR ws f g) L2 p2) : dLoop0 ws body K f L p := ⟨L1, p1, I, μ, h0.1, h0.2.1, h0.2.2, .inr h1⟩
theorem dLoop.intro (I : Rg → Ob → Po → Prop) (μ : Rg → Ob → Po → Nat) (L1 : Ob) (p1 : Po) (h0 : SubO L1 L ∧ PoSub p p1 ∧ I (mixR ws f f) L1 p1)
    (h1 : ∀ g L2 p2, I (mixR ws f g) L2 p2 → body (fun e f' L' p' => match e with
      | .normal => ∃ L3 p3, SubO L3 L' ∧ PoSub p' p3 ∧ I (mixR ws f f') L3 p3 ∧ μ (mixR ws f f') L3 p3 < μ (mixR ws f g) L2 p2
      | e => K e f' L' p') (mixR ws f g) L2 p2) : dLoop ws body K f L p := ⟨[], L1, p1, I, μ, h0.1, h0.2.1, h0.2.2, .inl h1⟩
theorem SubO.nil (L : Ob) : SubO [] L := fun _ h => by cases h
theorem SubO.cons {i : Nat} {b : O} {A L : Ob} (h : look L i = some b) (k : SubO A L) : SubO ((i, b) :: A) L := fun q hq => by
  rcases List.mem_cons.1 hq with rfl | hq
  · exact h
  · exact k q hq
theorem PoSub.none (p : Po) : PoSub p none := fun _ h => by cases h
theorem PoSub.refl (p : Po) : PoSub p p := fun qs h => ⟨qs, h, Sb.refl _⟩
/-- The number in a slot. -/
def ixS : S → Int
  | .c (.v (.int _ k)) => k
  | _ => 0
theorem dDrawn.intro {P : Program} {n : Nat} {ops : Array Oper} {K : K0} {f : Rg} {L : Ob} {p : Po} (xs : List Nat) (r : Plan) (hp : (Region.noSelect ops && planOkD ops xs ops.size (Array.replicate ops.size false) true r) = true)
    (h : dPlan P n ops xs K r f L p) : dDrawn P n ops K f L p := by
  simp only [Bool.and_eq_true] at hp
  exact ⟨hp.1, xs, r, hp.2, h⟩
end

theorem endOk {L : Ob} {p : Po} {s r : S} {nobj : Nat} {objs : List (List C)} (h : objs.length = nobj ∧ flat r objs = true ∧ leR (rhoE L s r nobj objs) L s (expS 9700 r) ∧ leB (rhoE L s r nobj objs) L (back r objs) ∧
    nodupB ((rhoE L s r nobj objs).map (·.2)) = true ∧ disjB (brwE L (rhoE L s r nobj objs) s r objs) ((rhoE L s r nobj objs).map (·.2)) = true ∧ inPool p (fps r objs)) : EndOk L p s r nobj objs :=
  ⟨h.1, h.2.1, h.2.2.1, h.2.2.2.1, h.2.2.2.2.1, h.2.2.2.2.2.1, h.2.2.2.2.2.2⟩

theorem plainL_csOf : ∀ l : List Go.Vc.D, plainL (csOf l) = true
  | [] => rfl
  | x :: r => by cases x <;> simp [csOf, cOf, plainL, plainC, plainL_csOf r]
theorem plainL_append : ∀ a b : List C, plainL (a ++ b) = (plainL a && plainL b)
  | [], _ => by simp [plainL]
  | x :: r, b => by simp [plainL, plainL_append r b, Bool.and_assoc]
section
variable {ρ : List (Nat × Nat)} {L : Ob}
theorem plain_all : ∀ {cs : List C}, plainL cs = true → (∀ b, expC b cs = cs) ∧ (∀ b, expO b cs = []) ∧ rhoL cs cs = [] ∧ brwL cs cs = [] ∧ leL ρ L cs cs ∧ flatL cs = true ∧ fpL cs = []
  | [], _ => ⟨fun _ => rfl, fun _ => rfl, rfl, rfl, trivial, rfl, rfl⟩
  | x :: r, h => by
    simp only [plainL, Bool.and_eq_true] at h
    obtain ⟨h1, h2, h3, h4, h5, h6, h7⟩ := plain_all h.2
    cases x with
    | v y =>
      refine ⟨fun b => by simp [expC, h1], fun b => by simp [expO, h2], by simp [rhoL, rhoC, h3], by simp [brwL, brwC, h4], ⟨?_, h5⟩, by simp [flatL, flatC, h6], by simp [fpL, fpC, h7]⟩
      cases y <;> simp [leC]
    | sl m ds F =>
      cases F with
      | some _ => simp [plainC] at h
      | none => exact ⟨fun b => by simp [expC, h1], fun b => by simp [expO, h2], by simp [rhoL, rhoC, h3], by simp [brwL, brwC, h4], ⟨⟨rfl, rfl, .inl rfl⟩, h5⟩, by simp [flatL, flatC, h6], by simp [fpL, fpC, h7]⟩
    | _ => simp [plainC] at h
theorem plain_tu : ∀ {xs : List (List C × Bool)}, plainL (xs.flatMap (·.1)) = true → (∀ b, expT b xs = xs) ∧ rhoT xs xs = [] ∧ brwT xs xs = [] ∧ leT ρ L xs xs
  | [], _ => ⟨fun _ => rfl, rfl, rfl, trivial⟩
  | (cs, t) :: r, h => by
    simp only [List.flatMap_cons, plainL_append, Bool.and_eq_true] at h
    obtain ⟨h1, _, h3, h4, h5, _, _⟩ := plain_all (ρ := ρ) (L := L) h.1
    obtain ⟨k1, k2, k3, k4⟩ := plain_tu h.2
    exact ⟨fun b => by simp [expT, h1, k1], by simp [rhoT, h3, k2], by simp [brwT, h4, k3], rfl, h5, k4⟩
theorem plain_S {s : S} (h : plainL (cellsS s) = true) : expS 9700 s = s ∧ rhoR s s = [] ∧ brwR s s = [] ∧ leR ρ L s s := by
  cases s with
  | c x =>
    obtain ⟨h1, _, h3, h4, h5, _, _⟩ := plain_all (ρ := ρ) (L := L) (cs := [x]) h
    refine ⟨by simp [expS, h1], by simpa [rhoL, rhoR] using h3, by simpa [brwL, brwR] using h4, h5.1⟩
  | ag cs =>
    obtain ⟨h1, _, h3, h4, h5, _, _⟩ := plain_all (ρ := ρ) (L := L) (cs := cs) h
    exact ⟨by simp [expS, h1], h3, h4, h5⟩
  | tu xs =>
    obtain ⟨h1, h2, h3, h4⟩ := plain_tu (ρ := ρ) (L := L) (xs := xs) h
    exact ⟨by simp [expS, h1], h2, h3, h4⟩
end
theorem Sb_nil_pool {p : Po} : inPool p [] := by
  unfold inPool
  split
  · rfl
  · exact Sb.nil _
/-- The end, where nothing is lent and the result is plain. -/
theorem end0 {L : Ob} {p : Po} {s : S} (h : (plainL (cellsS s) && decide ((cellsS s).length ≤ 900)) = true) : EndOk L p s s 0 [] := by
  simp only [Bool.and_eq_true, decide_eq_true_eq] at h
  obtain ⟨e1, e2, e3, e4⟩ := plain_S (ρ := rhoE L s s 0 []) (L := L) h.1
  obtain ⟨h1, h2, _, _, _, h6, h7⟩ := plain_all (ρ := []) (L := L) h.1
  have hb : back s [] = [] := by simp [back, h2, expB]
  have hr : rhoE L s s 0 [] = [] := by simp [rhoE, hb, rhoB, idp, e1, e2]
  refine ⟨rfl, by simp [Go.Dv.flat, h6, h.2, flatB], by rw [e1]; exact e4, by rw [hb]; trivial, by rw [hr]; rfl, ?_, ?_⟩
  · rw [hr]; simp [brwE, hb, brwB, e1, e3, disjB]
  · simp only [fps, h7, fpB, List.append_nil]; exact Sb_nil_pool
/-- A call that is lent no struct. -/
theorem call0 {q : Bool} {P : Program} {g : FuncId} {sargs : List S} {n d : Nat} {K : K0} {f : Rg} {L : Ob} {p : Po} {args : List S} {R : S → List (List C) → Prop} (h : Cl P g args [] R) (hd : d < n)
    (harg : args.length ≤ 100 ∧ leA (rho L sargs args []) L sargs (expA 9500 args) ∧ leB (rho L sargs args []) L (lent args []) ∧ nodupB ((rho L sargs args []).map (·.2)) = true ∧ disjB (brw L (rho L sargs args []) sargs args []) ((rho L sargs args []).map (·.2)) = true ∧ famOk L d (rho L sargs args []) = true ∧ (q = true → lent args [] = []))
    (hk : ∀ r, R r [] → (brw L (rho L sargs args []) sargs args [] = [] ∨ toldL (cellsS r) = true) ∧ after (rho L sargs args []) n d r [] K f L p) : CallQ q P g sargs n (some d) K f L p :=
  CallQ.intro h hd harg fun r os hR hos => by
    have : os = [] := List.eq_nil_of_length_eq_zero hos
    subst this
    obtain ⟨h1, h2⟩ := hk r hR
    exact ⟨h1.imp id fun h => by rw [h]; rfl, h2⟩

/-- A row of a slice of structs. -/
theorem drop_row {α : Type} {row : α → List Go.Vc.D} {sz : Nat} (hsz : ∀ e, (row e).length = sz) : ∀ {es : List α} {k : Nat} {e : α}, es[k]? = some e → (es.flatMap row).drop (k * sz) = row e ++ (es.drop (k + 1)).flatMap row
  | [], _, _, h => by simp at h
  | x :: r, 0, e, h => by simp at h; subst h; simp
  | x :: r, k + 1, e, h => by
    have ih := drop_row hsz (es := r) (k := k) (by simpa using h)
    simp only [List.flatMap_cons, List.drop_succ_cons]
    rw [Nat.add_mul, Nat.one_mul, Nat.add_comm, ← List.drop_drop, List.drop_left' (hsz x)]
    exact ih
theorem flatMap_len {α : Type} {row : α → List Go.Vc.D} {sz : Nat} (hsz : ∀ e, (row e).length = sz) : ∀ es : List α, (es.flatMap row).length = es.length * sz
  | [] => by simp
  | x :: r => by rw [List.flatMap_cons, List.length_append, hsz, flatMap_len hsz r, List.length_cons, Nat.add_mul]; omega
theorem takeD_row {ds r : List Go.Vc.D} {k : Nat} (h : ds.length = k) : takeD k (ds ++ r) = some ds := by
  subst h
  induction ds with
  | nil => cases r <;> rfl
  | cons x t ih => simp only [List.cons_append, List.length_cons, takeD, ih]
end Go.Dv

namespace Go.Dv
open Go Go.RowKit
open Go.Vc (okV Plan callable)

/-! ## From the contract to the very world -/
theorem plain_expS {s : S} (h : plainL (cellsS s) = true) (b : Nat) : expS b s = s := by
  cases s with
  | c x =>
    obtain ⟨h1, _⟩ := plain_all (ρ := []) (L := []) (cs := [x]) h
    simp [expS, h1]
  | ag cs =>
    obtain ⟨h1, _⟩ := plain_all (ρ := []) (L := []) (cs := cs) h
    simp [expS, h1]
  | tu xs =>
    obtain ⟨h1, _⟩ := plain_tu (ρ := []) (L := []) (xs := xs) h
    simp [expS, h1]
theorem plain_args : ∀ {args : List S} (b : Nat), plainL (args.flatMap cellsS) = true → expA b args = args ∧ expAO b args = []
  | [], _, _ => ⟨rfl, rfl⟩
  | s :: r, b, h => by
    simp only [List.flatMap_cons, plainL_append, Bool.and_eq_true] at h
    obtain ⟨h1, h2⟩ := plain_args (args := r) (b + 1) h.2
    obtain ⟨_, k2, _⟩ := plain_all (ρ := []) (L := []) h.1
    exact ⟨by simp [expA, plain_expS h.1, h1], by simp [expAO, k2, h2]⟩
/-- A contract told of the very world: the call has only grown it. -/
theorem Cl.top {P : Program} {g : FuncId} {args : List S} {R : S → List (List C) → Prop} (h : Cl P g args [] R) (hp : plainL (args.flatMap cellsS) = true) {W : World} {vs : List Value}
    (hv : RelA P W (fun _ => none) (fun _ => True) args vs) (hg : GlW W (fun _ => False)) :
    Calls P g vs.toArray W fun e W' => ∃ v r, e = .returned v ∧ R r [] ∧ Below W.heap.size W W' ∧ (∀ a : Addr, a.block < W.heap.size → W'.frozen? a = W.frozen? a) ∧ ∃ β ok, RelS P W' β ok (expS 9700 r) v := by
  obtain ⟨e1, e2⟩ := plain_args 9500 hp
  have el : lent args [] = [] := by simp [lent, e2, expB]
  have hok : okA (fun _ => True) (lent args []) (fun _ => none) = fun _ => True := by
    funext b
    simp [okA, el, ownB, look]
  refine (h.2 W (fun _ => none) (fun _ => True) vs ?_ ?_ ?_).mono ?_
  · rw [e1, hok]; exact hv
  · rw [el]; exact ⟨fun i o hl => by simp [look] at hl, fun i j o o' b hl => by simp [look] at hl⟩
  · exact hg.mono (fun _ _ _ => rfl) fun b hb _ => by rw [el] at hb; obtain ⟨i, o, hl, _⟩ := hb; simp [look] at hl
  · rintro e W' ⟨v, r, objs, β, rfl, hR, hP⟩
    have ho : objs = [] := List.eq_nil_of_length_eq_zero (by simpa using hP.len)
    subst ho
    have hkeep : ∀ b, b < W.heap.size → W'.heap[b]? = W.heap[b]? := fun b hb => hP.tr.keep b hb (by rw [el]; rintro ⟨i, o, hl, _⟩; simp [look] at hl)
    refine ⟨v, r, rfl, hR, ⟨hP.outer.1, hP.outer.2.1, hP.outer.2.2, hP.tr.size, fun b hb => hkeep b hb⟩, fun a ha => by unfold World.frozen?; rw [hkeep a.block ha], _, _, hP.rel⟩

/-- A contract on plain values, out of what the call does to the very world: what it hands back is plain, or new. -/
theorem Cl.ofNew {P : Program} {g : FuncId} {R : S → List (List C) → Prop} (hc : callable P g = true) (xs : List Value)
    (h : ∀ w, GlW w (fun _ => False) → Calls P g xs.toArray w fun e w' => ∃ v r, e = .returned v ∧ R r [] ∧ (plainL (cellsS r) && decide ((cellsS r).length ≤ 900)) = true ∧ (∀ β, RelS P w' β (fun b => w.heap.size ≤ b) r v) ∧ Below w.heap.size w w') :
    Cl P g (xs.map fun x => .c (.v x)) [] R := by
  refine ⟨hc, fun w β ok0 vs ha ho hg => ?_⟩
  have hpl : plainL ((xs.map fun x => (S.c (.v x))).flatMap cellsS) = true := by
    clear ha ho hg h
    induction xs with
    | nil => rfl
    | cons x r ih => simp only [List.map_cons, List.flatMap_cons, plainL_append, ih, Bool.and_true]; rfl
  obtain ⟨e1, e2⟩ := plain_args 9500 hpl
  have el : lent (xs.map fun x => (S.c (.v x))) [] = [] := by simp [lent, e2, expB]
  rw [e1] at ha
  have hvs : vs = xs := by
    generalize okA ok0 (lent (xs.map fun x => (S.c (.v x))) []) β = okk at ha
    clear hpl e1 e2 el ho hg h
    induction xs generalizing vs with
    | nil => cases vs with | nil => rfl | cons _ _ => exact ha.elim
    | cons x r ih => cases vs with
      | nil => exact ha.elim
      | cons v t =>
        obtain ⟨h1, h2⟩ := ha
        rw [h1.1, ih t h2]
  subst hvs
  have ho' : ∀ b, ¬ ownB (lent (vs.map fun x => (S.c (.v x))) []) β b := by rw [el]; rintro b ⟨i, o, hl, _⟩; simp [look] at hl
  refine (h w (hg.mono (fun _ _ _ => rfl) fun _ h _ => h.elim)).mono ?_
  rintro e w' ⟨v, r, rfl, hR, hp, hrel, hB⟩
  simp only [Bool.and_eq_true, decide_eq_true_eq] at hp
  obtain ⟨k1, k2, k3, k4, k5, k6, k7⟩ := plain_all (ρ := []) (L := []) hp.1
  have hbk : back r [] = [] := by simp [back, k2, expB]
  have hnb : ∀ b, ¬ ownB (back r []) β b := by rw [hbk]; rintro b ⟨i, o, hl, _⟩; simp [look] at hl
  refine ⟨v, r, [], β, rfl, hR, ⟨?_, ⟨fun i o hl => ?_, fun i j o o' b hl => ?_⟩, fun k hk => absurd hk (Nat.not_lt_zero _), rfl, ⟨hB.size, fun b hb _ => hB.block b hb, fun b _ hb => (hnb b hb).elim, fun b cs ty lh hc => ⟨cs, lh, (hB.block b (lt_of_heap hc)).trans hc, rfl⟩⟩, hB.size, ⟨hB.os, hB.tape, hB.output⟩, ⟨by simp [fps, k7, fpB], fun b hb => ?_⟩, by simp [flat, k6, hp.2, flatB]⟩⟩
  · rw [plain_expS hp.1]
    exact (hrel β).st (stab_mono fun b hb => ⟨hnb b, fun hlt => by omega⟩)
  · simp [hbk, look] at hl
  · simp [hbk, look] at hl
  · simp [fps, k7, fpB] at hb
/-- So, where a plain value comes back. -/
theorem Cl.ofVals {P : Program} {g : FuncId} {R : S → List (List C) → Prop} (hc : callable P g = true) (xs : List Value)
    (h : ∀ w, GlW w (fun _ => False) → Calls P g xs.toArray w fun e w' => ∃ v, e = .returned v ∧ okV v ∧ R (.c (.v v)) [] ∧ Below w.heap.size w w') : Cl P g (xs.map fun x => .c (.v x)) [] R :=
  Cl.ofNew hc xs fun w hg => (h w hg).mono fun _ _ ⟨v, h1, h2, h3, h4⟩ => ⟨v, _, h1, h3, rfl, fun _ => ⟨rfl, h2⟩, h4⟩
end Go.Dv

namespace Go.Dv
open Go Go.RowKit
open Go.Vc (D okV Plan guardSlot dsts)
/-! ## What holds behind is enough that it holds -/
def Le (K K' : K0) : Prop := ∀ f L p, K f L p → K' f L p
theorem Le.refl (K : K0) : Le K K := fun _ _ _ h => h
def Mo (F : K0 → K0) : Prop := ∀ {K K' : K0}, Le K K' → Le (F K) (F K')
theorem create_mo {n d is ob mk} : Mo (create n d is ob mk) := fun {K K'} hk f L p => by
  unfold create
  repeat' split
  all_goals repeat' first | exact hk _ _ _ | exact id | exact False.elim | refine And.imp ?_ ?_ | refine Exists.imp fun _ => ?_ | refine forall_imp fun _ => ?_
theorem dPure_mo {P n d s} : Mo (dPure P n d s) := fun {K K'} hk f L p => by
  unfold dPure
  repeat' first | exact hk _ _ _ | exact id | exact False.elim | refine And.imp ?_ ?_ | refine Exists.imp fun _ => ?_ | refine forall_imp fun _ => ?_
theorem kLoad_mo {n d t cs} : Mo (kLoad n d t cs) := fun {K K'} hk f L p => by
  unfold kLoad
  repeat' split
  all_goals repeat' first | exact hk _ _ _ | exact id | exact False.elim | refine And.imp ?_ ?_ | refine Exists.imp fun _ => ?_ | refine forall_imp fun _ => ?_
theorem dLoad_mo {P n d t x} : Mo (dLoad P n d t x) := fun {K K'} hk f L p => by
  have h1 := @kLoad_mo
  unfold dLoad
  repeat' split
  all_goals repeat' first | exact kLoad_mo hk _ _ _ | exact id | exact False.elim | refine And.imp ?_ ?_
theorem dStore_mo {P n d t x y} : Mo (dStore P n d t x y) := fun {K K'} hk f L p => by
  unfold dStore
  split
  · refine And.imp id (And.imp id (And.imp id ?_))
    repeat' split
    all_goals repeat' first | exact hk _ _ _ | exact id | exact False.elim | refine And.imp ?_ ?_ | split
  · exact id
theorem newsOf_mo {t : S} {L : Ob} {k k' : Nat → List D → Fp → Prop} (h : ∀ a b c, k a b c → k' a b c) : newsOf t L k → newsOf t L k' := by
  unfold newsOf
  repeat' split
  all_goals repeat' first | exact h _ _ _ | exact id | refine And.imp ?_ ?_
theorem dAppend_mo {P n d T s t} : Mo (dAppend P n d T s t) := fun {K K'} hk f L p => by
  unfold dAppend
  split
  · exact id
  · refine newsOf_mo fun a b c => ?_
    refine And.imp id (And.imp id ?_)
    repeat' split
    all_goals repeat' first | exact create_mo hk _ _ _ | exact id | refine And.imp ?_ ?_
theorem frz_mo {i : Nat} {k k' : Nat → C → K0} (h : ∀ n x, Le (k n x) (k' n x)) : Le (frz i k) (frz i k') := fun f L p => by
  unfold frz
  repeat' split
  all_goals repeat' first | exact h _ _ _ _ _ | exact id | refine forall_imp fun _ => ?_
theorem outC_mo {k k' : List C → K0} (h : ∀ cs, Le (k cs) (k' cs)) : ∀ (m : Nat) (cs : List C), Le (outC m cs k) (outC m cs k')
  | 0, cs => fun f L p => id
  | m + 1, cs => fun f L p => by
    unfold outC
    cases ownsC cs with
    | none => exact h _ _ _ _
    | some i => exact frz_mo (fun n x => outC_mo h m _) _ _ _
theorem dBuildS_mo {P n d T len ps} : Mo (dBuildS P n d T len ps) := fun {K K'} hk f L p => by
  unfold dBuildS
  repeat' split
  all_goals first | exact id | skip
  refine And.imp id (And.imp id (outC_mo (fun cs f L p => ?_) _ _ _ _ _))
  split
  · exact create_mo hk _ _ _
  · exact id
theorem dIndexAddr_mo {P n d T x i} : Mo (dIndexAddr P n d T x i) := fun {K K'} hk f L p => by
  unfold dIndexAddr
  repeat' split
  all_goals repeat' first | exact hk _ _ _ | exact id | exact False.elim | refine And.imp ?_ ?_ | refine Exists.imp fun _ => ?_ | refine forall_imp fun _ => ?_
theorem dLen_mo {P n d T x} : Mo (dLen P n d T x) := fun {K K'} hk f L p => by
  unfold dLen
  repeat' split
  all_goals repeat' first | exact hk _ _ _ | exact id | exact False.elim | refine And.imp ?_ ?_ | refine Exists.imp fun _ => ?_ | refine forall_imp fun _ => ?_
theorem dConvB_mo {P n d s t ln ds} : Mo (dConvB P n d s t ln ds) := fun {K K'} hk f L p => by
  unfold dConvB
  repeat' first | exact hk _ _ _ | exact id | exact False.elim | refine And.imp ?_ ?_ | refine Exists.imp fun _ => ?_ | refine forall_imp fun _ => ?_
theorem dConv_mo {P n d s t x} : Mo (dConv P n d s t x) := fun {K K'} hk f L p => by
  unfold dConv
  repeat' split
  all_goals repeat' first | exact dConvB_mo hk _ _ _ | exact dPure_mo hk _ _ _ | exact id | refine And.imp ?_ ?_
theorem dCut_mo {P n d T ln ds l h} : Mo (dCut P n d T ln ds l h) := fun {K K'} hk f L p => by
  unfold dCut
  repeat' split
  all_goals repeat' first | exact hk _ _ _ | exact id | exact False.elim | refine And.imp ?_ ?_ | refine Exists.imp fun _ => ?_ | refine forall_imp fun _ => ?_
theorem dSlice_mo {P n d T x l h} : Mo (dSlice P n d T x l h) := fun {K K'} hk f L p => by
  unfold dSlice
  repeat' split
  all_goals first | exact dPure_mo hk _ _ _ | exact dCut_mo hk _ _ _ | exact id
theorem dMake_mo {P n d T l c} : Mo (dMake P n d T l c) := fun {K K'} hk f L p => by
  unfold dMake
  repeat' split
  all_goals repeat' first | exact create_mo hk _ _ _ | exact id | refine And.imp ?_ ?_
def MoT (CT : CallT) : Prop := ∀ g ss n d, Mo (CT g ss n d)
theorem dOp_mo {CT : CallT} (hC : MoT CT) {P n o} : Mo (dOp CT P n o) := fun {K K'} hk f L p => by
  unfold dOp
  split
  all_goals repeat' first | exact hk _ _ _ | exact create_mo hk _ _ _ | exact dBuildS_mo hk _ _ _ | exact dMake_mo hk _ _ _ | exact dLoad_mo hk _ _ _ | exact dStore_mo hk _ _ _ | exact dIndexAddr_mo hk _ _ _ | exact hC _ _ _ _ hk _ _ _ | exact dLen_mo hk _ _ _ | exact dAppend_mo hk _ _ _ | exact dPure_mo hk _ _ _ | exact dConv_mo hk _ _ _ | exact dSlice_mo hk _ _ _ | exact id | exact And.imp (forall_imp fun _ => hk _ _ _) (forall_imp fun _ => hk _ _ _) | refine And.imp ?_ ?_ | split
theorem dOpF_mo {CT : CallT} (hC : MoT CT) {P n o} : Mo (dOpF CT P n o) := fun {K K'} hk f L p => by
  unfold dOpF
  split
  all_goals repeat' first | exact dOp_mo hC hk _ _ _ | exact frz_mo (fun _ _ => dOp_mo hC hk) _ _ _ | exact And.imp id (create_mo hk _ _ _) | split
theorem frzL_mo {k k' : List S → K0} (h : ∀ ss, Le (k ss) (k' ss)) : ∀ (is : List Nat) (ss : List S), Le (frzL is ss k) (frzL is ss k')
  | [], ss => h ss
  | i :: r, ss => frz_mo fun _ _ => frzL_mo h r _
theorem after_mo {ρ n d r objs} : Mo (after ρ n d r objs) := fun {K K'} hk f L p => by
  unfold after
  exact hk _ _ _
theorem Call1_mo {q P g ss n d} : Mo (Call1 q P g ss n d) := fun {K K'} hk f L p => by
  unfold Call1
  split
  · refine And.imp id (Or.imp ?_ ?_)
    · rintro ⟨args, objs, R, h1, h2, h3, h4⟩
      exact ⟨args, objs, R, h1, h2, h3, fun r o hr ho => ⟨(h4 r o hr ho).1, after_mo hk _ _ _ (h4 r o hr ho).2⟩⟩
    · rintro ⟨R, h1, h2⟩
      exact ⟨R, h1, fun cs hc => hk _ _ _ (h2 cs hc)⟩
  · exact id
theorem CallQ_mo {q P g ss n d} : Mo (CallQ q P g ss n d) := fun {K K'} hk f L p => by
  unfold CallQ
  rintro ⟨is, h⟩
  exact ⟨is, frzL_mo (fun ss => Call1_mo hk) is ss f L p h⟩
theorem callT_mo {q P} : MoT (CallQ q P) := fun _ _ _ _ => CallQ_mo
theorem callK_mo {P} : MoT (CallK P) := fun _ _ _ _ => CallQ_mo
theorem dGuard_mo {n ops o} {st : K0 → K0} (hs : Mo st) : Mo (dGuard n ops o st) := fun {K K'} hk f L p => by
  unfold dGuard
  split
  · exact hs hk _ _ _
  · split
    · exact id
    · split
      · exact And.imp (forall_imp fun _ => hs hk _ _ _) (forall_imp fun _ => hk _ _ _)
      · exact hk _ _ _
      · exact id
theorem dPlan_mo {P n ops xs} {K K' : K0} (hk : Le K K') : ∀ (r : Plan), Le (dPlan P n ops xs K r) (dPlan P n ops xs K' r)
  | .done => hk
  | .nobr => fun _ _ _ h => h
  | .take i p => fun f L q => by
    simp only [dPlan]
    split
    · exact dGuard_mo (fun hk => dOp_mo callK_mo hk) (dPlan_mo hk p) _ _ _
    · exact id
  | .br i p r => fun f L q => by
    simp only [dPlan]
    refine And.imp ?_ (dPlan_mo hk r _ _ _)
    split
    · exact dGuard_mo (fun hk => dOpF_mo callT_mo hk) (dPlan_mo hk p) _ _ _
    · exact id
theorem dDrawn_mo {P n ops} : Mo (dDrawn P n ops) := fun {K K'} hk f L p => by
  rintro ⟨h1, xs, r, h2, h3⟩
  exact ⟨h1, xs, r, h2, dPlan_mo hk r _ _ _ h3⟩
theorem brC {q : Bool} {P : Program} {g : FuncId} {ss : List S} {n : Nat} {d : Option Nat} {K : K0} {f : Rg} {L : Ob} {p : Po} {B : Prop} (h : CallQ q P g ss n d K f L p) (k : B) : CallQ q P g ss n d K f L p ∧ B := ⟨h, k⟩
theorem brA {b : Bool} {x y : Nat} {Z B : Prop} (h : b = true ∧ room x y ∧ Z) (k : B) : (b = true ∧ room x y ∧ Z) ∧ B := ⟨h, k⟩
theorem brA2 {b : Bool} {x y : Nat} {Z B B' : Prop} (h : (b = true ∧ room x y ∧ Z) ∧ B) (k : B') : ((b = true ∧ room x y ∧ Z) ∧ B) ∧ B' := ⟨h, k⟩
theorem brA3 {b : Bool} {x y : Nat} {Z B B' B'' : Prop} (h : ((b = true ∧ room x y ∧ Z) ∧ B) ∧ B') (k : B'') : (((b = true ∧ room x y ∧ Z) ∧ B) ∧ B') ∧ B'' := ⟨h, k⟩
theorem brC2 {q : Bool} {P : Program} {g : FuncId} {ss : List S} {n : Nat} {d : Option Nat} {K : K0} {f : Rg} {L : Ob} {p : Po} {B B' : Prop} (h : CallQ q P g ss n d K f L p ∧ B) (k : B') : (CallQ q P g ss n d K f L p ∧ B) ∧ B' := ⟨h, k⟩
theorem dDrawn_j1 {P : Program} {n : Nat} {ops : Array Oper} {K : K0} {f : Rg} {L : Ob} {p : Po} (s0 : Nat) {v0 : S} {L1 : Ob} {p1 : Po} (h1 : dDrawn P n ops (fun f' L' p' => f' s0 = v0 ∧ L' = L1 ∧ p' = p1) f L p) (h2 : ∀ f' : Rg, f' s0 = v0 → K f' L1 p1) : dDrawn P n ops K f L p :=
  dDrawn_mo (K := fun f' L' p' => f' s0 = v0 ∧ L' = L1 ∧ p' = p1) (fun f' L' p' => by rintro ⟨q0, rfl, rfl⟩; exact h2 f' q0) _ _ _ h1
theorem dDrawn_j3 {P : Program} {n : Nat} {ops : Array Oper} {K : K0} {f : Rg} {L : Ob} {p : Po} (s0 : Nat) (s1 : Nat) (s2 : Nat) {v0 : S} {v1 : S} {v2 : S} {L1 : Ob} {p1 : Po} (h1 : dDrawn P n ops (fun f' L' p' => f' s0 = v0 ∧ f' s1 = v1 ∧ f' s2 = v2 ∧ L' = L1 ∧ p' = p1) f L p) (h2 : ∀ f' : Rg, f' s0 = v0 → f' s1 = v1 → f' s2 = v2 → K f' L1 p1) : dDrawn P n ops K f L p :=
  dDrawn_mo (K := fun f' L' p' => f' s0 = v0 ∧ f' s1 = v1 ∧ f' s2 = v2 ∧ L' = L1 ∧ p' = p1) (fun f' L' p' => by rintro ⟨q0, q1, q2, rfl, rfl⟩; exact h2 f' q0 q1 q2) _ _ _ h1
theorem dDrawn_j4 {P : Program} {n : Nat} {ops : Array Oper} {K : K0} {f : Rg} {L : Ob} {p : Po} (s0 : Nat) (s1 : Nat) (s2 : Nat) (s3 : Nat) {v0 : S} {v1 : S} {v2 : S} {v3 : S} {L1 : Ob} {p1 : Po} (h1 : dDrawn P n ops (fun f' L' p' => f' s0 = v0 ∧ f' s1 = v1 ∧ f' s2 = v2 ∧ f' s3 = v3 ∧ L' = L1 ∧ p' = p1) f L p) (h2 : ∀ f' : Rg, f' s0 = v0 → f' s1 = v1 → f' s2 = v2 → f' s3 = v3 → K f' L1 p1) : dDrawn P n ops K f L p :=
  dDrawn_mo (K := fun f' L' p' => f' s0 = v0 ∧ f' s1 = v1 ∧ f' s2 = v2 ∧ f' s3 = v3 ∧ L' = L1 ∧ p' = p1) (fun f' L' p' => by rintro ⟨q0, q1, q2, q3, rfl, rfl⟩; exact h2 f' q0 q1 q2 q3) _ _ _ h1
end Go.Dv
