/-
  The calculus over data trees is sound, second half; its equations.
  Conditions: none.
-/
import Derived.Test.YtoegnikpokgbfaaGreatDoorETCalcA
import Derived.Laws.Strings3
import Derived.Laws.DeepStrings4
set_option linter.unusedVariables false
set_option linter.unusedSimpArgs false
set_option linter.unusedSectionVars false
namespace Go.Dv
open Go Go.RowKit
open Go.Vc (vis vis_of_cell CellF RowF ValsF D inN okV callable wp_value Stay)
variable [Out]
theorem Sb.nodup {A B : List Nat} (h : Sb A B) (hb : B.Nodup) : A.Nodup := List.nodup_iff_count.2 fun x => Nat.le_trans (h x) (List.nodup_iff_count.1 hb x)
theorem Sb.mem {A B : List Nat} (h : Sb A B) {x : Nat} (hx : x ∈ A) : x ∈ B := List.count_pos_iff.1 (Nat.lt_of_lt_of_le (List.count_pos_iff.2 hx) (h x))
section
variable {P : Program} {n : Nat} {w0 : World} {ok0 own0 : Nat → Prop} {β : Nat → Option Nat} {f : Rg} {L : Ob} {p : Po} {a : Act} {w : World}
 {K : K0} {Ka : Act → World → Prop} {Q : Exit → Act → World → Prop}
theorem look_expAO_none : ∀ (xs : List S) (b i : Nat), fam i < 9500 → 9500 ≤ b → b + xs.length < 10000 → look (expAO b xs) i = none
 | [], _, _, _, _, _ => rfl
 | x :: r, b, i, hi, hb, hl => by
  simp only [expAO, look_append, Option.or_eq_none_iff]
  refine ⟨?_, look_expAO_none r (b + 1) i hi (by omega) (by simp at hl; omega)⟩
  cases hx : look (expO b (cellsS x)) i with
  | none => rfl
  | some o =>
   obtain ⟨j, _, _, _, _, h1, _⟩ := look_expO hx
   rw [h1, fam_add] at hi
   have : fam b = b := fam_fam (by omega)
   omega
theorem look_expAO_arr : ∀ {xs : List S} {b i : Nat} {o : O}, look (expAO b xs) i = some o → ∃ ty m ds F, o = .arr ty m ds F
 | [], _, _, _, h => by simp [expAO, look] at h
 | x :: r, b, i, o, h => by
  simp only [expAO, look_append] at h
  cases hx : look (expO b (cellsS x)) i with
  | some o' =>
   simp [hx] at h; subst h
   obtain ⟨_, ty, m, ds, F, _, _, h1⟩ := look_expO hx
   exact ⟨ty, m, ds, F, h1⟩
  | none => simp [hx] at h; exact look_expAO_arr h
theorem look_back_res {r : S} {objs : List (List C)} {j : Nat} {ty m ds F} (h : (cellsS r)[j]? = some (.ow ty m ds F)) : look (back r objs) (9700 + 10000 * j) = some (.arr ty m ds F) := by
 rw [back, look_append, look_expO' h]; rfl
theorem look_back_obj {r : S} {objs : List (List C)} {i : Nat} {o : O} (hi : fam i < 9700) (h : look (expB 0 objs) i = some o) : look (back r objs) i = some o := by
 rw [back, look_append]
 have : look (expO 9700 (cellsS r)) i = none := by
  cases hx : look (expO 9700 (cellsS r)) i with
  | none => rfl
  | some o' =>
   obtain ⟨j, _, _, _, _, h1, _⟩ := look_expO hx
   rw [h1, fam_add] at hi
   simp [fam] at hi
 rw [this]; simpa using h
theorem RelL.okmono {ok ok' : Nat → Prop} {β : Nat → Option Nat} {w : World} (h : ∀ b, ok b → ok' b) : ∀ {xs : List C} {ys : List Value}, RelL P w β ok xs ys → RelL P w β ok' xs ys
 | [], [], _ => trivial
 | _ :: _, _ :: _, h1 => ⟨h1.1.okmono h, h1.2.okmono h⟩
 | [], _ :: _, h1 => h1.elim
 | _ :: _, [], h1 => h1.elim
theorem RelT1.okmono {ok ok' : Nat → Prop} {β : Nat → Option Nat} {w : World} (h : ∀ b, ok b → ok' b) {x : List C × Bool} {v : Value} (h1 : RelT1 P w β ok x v) : RelT1 P w β ok' x v := by
 unfold RelT1 at h1 ⊢
 split
 ·rename_i e; rw [if_pos e] at h1; exact h1.okmono h
 ·rename_i e; rw [if_neg e] at h1; obtain ⟨vs, h2, h3⟩ := h1; exact ⟨vs, h2, h3.okmono h⟩
theorem callN_sound {q : Bool} {o : Oper} {g : FuncId} {sargs : List S} {va : List Value} {d : Nat} {R : List C → Prop} (hn : n ≤ 9000) (hs : Sim P n w0 ok0 own0 β f L p a w) (hargs : RelA P w β (okB w0 ok0 L β) sargs va)
 (hrun : callable P g = true → (execOp a.eval o).run P w = .ok (.enter g va.toArray) w) (hod : (o.dst : Option Nat) = some d) (hdn : d < n) (hN : ClN P g sargs R)
 (hk : ∀ cs, R cs → K (upd (kR [d] [] f) d (.c (.p d 0))) ((d, .str cs) :: kL [d] [] L) p)
 (hK : ∀ β' f' L' p' a' w', Sim P n w0 ok0 own0 β' f' L' p' a' w' → Keep o.dst.toList β a β' a' → Tr L β w L' β' w' → (q = true → Stay w w') → K f' L' p' → Ka a' w') : o.wp P a w Ka Q := by
 have hf : fam d = d := Nat.mod_eq_of_lt (by omega)
 unfold Oper.wp
 rw [hrun hN.1, Oper.upon_enter]
 refine (hN.2 w β _ va hargs (hs.gl.mono (fun _ _ _ => rfl) fun _ h => h.elim)).mono ?_
 rintro e w' ⟨b, cs, xs, ty, lh, rfl, hR, hns, hb, hcell, hlh, hrel, hkeep, hwd, ho⟩
 have hmono : ∀ x, (x ≠ b ∧ (x < w.heap.size → okB w0 ok0 L β x)) → okB w0 ok0 ((d, .str cs) :: kL [d] [] L) (fun j => if j = d then some b else β j) x := fun x hx => by
  refine ⟨?_, fun hlt => (hx.2 (Nat.lt_of_lt_of_le hlt hs.wd)).2 hlt⟩
  rintro ⟨i, o', h1, h2⟩
  by_cases hi : i = d
  ·subst hi; simp at h2; exact hx.1 h2.symm
  ·have hdi : ¬ d = i := fun e => hi e.symm
   have h1 : look (kL [d] [] L) i = some o' := by simpa [look, hdi] using h1
   obtain ⟨j, o2, h3, _, h5⟩ := ownB_kL (β := β) (β' := β) (fun _ _ => rfl) ⟨i, o', h1, by simpa [hi] using h2⟩
   have hown : ownB L β x := ⟨j, o2, h3, h5⟩
   obtain ⟨c1, t1, _, hc1, _⟩ := hs.own_there hown
   exact (hx.2 (lt_of_heap hc1)).1 hown
 obtain ⟨h1, h2⟩ := hs.place (g := some b) (x := .c (.p d 0)) (v := .pointer (some ⟨b, 0, none⟩)) (is := []) (ob := .str cs) hwd ho (fun x hx _ => hkeep x hx)
  (fun x e => by injection e with e; subst e; exact ⟨.inl hb, xs, ty, lh, hcell, fun cs' ty' lh hc => absurd (lt_of_heap hc) (by omega)⟩) hf
  (fun _ _ => ⟨b, xs, ty, lh, by simp, hcell, hlh, SelfOk.none (noSelf_spec hns), (hrel _).okmono hmono⟩) ⟨b, by simp, rfl⟩ hdn
 show Ka (a.put o.dst (.pointer (some ⟨b, 0, none⟩))) w'
 rw [hod]
 exact hK _ _ _ _ _ _ h1 (by rw [hod]; exact keep_place a d _ hf _) h2 (fun _ => ⟨hwd, hkeep⟩) (hk cs hR)
theorem callM_sound {q : Bool} {o : Oper} {g : FuncId} {sargs : List S} {va : List Value} {d : Nat} {R : List C → List C × Bool → Prop} (hn : n ≤ 9000) (hs : Sim P n w0 ok0 own0 β f L p a w) (hargs : RelA P w β (okB w0 ok0 L β) sargs va)
 (hrun : callable P g = true → (execOp a.eval o).run P w = .ok (.enter g va.toArray) w) (hod : (o.dst : Option Nat) = some d) (hdn : d < n) (hN : ClM P g sargs R)
 (hk : ∀ cs x, R cs x → K (upd (kR [d] [] f) d (.tu [([.p d 0], true), x])) ((d, .str cs) :: kL [d] [] L) p)
 (hK : ∀ β' f' L' p' a' w', Sim P n w0 ok0 own0 β' f' L' p' a' w' → Keep o.dst.toList β a β' a' → Tr L β w L' β' w' → (q = true → Stay w w') → K f' L' p' → Ka a' w') : o.wp P a w Ka Q := by
 have hf : fam d = d := Nat.mod_eq_of_lt (by omega)
 unfold Oper.wp
 rw [hrun hN.1, Oper.upon_enter]
 refine (hN.2 w β _ va hargs (hs.gl.mono (fun _ _ _ => rfl) fun _ h => h.elim)).mono ?_
 rintro e w' ⟨b, cs, xs, ty, lh, x0, v0, rfl, hR, hns, hb, hcell, hlh, hrel, hkeep, hwd, ho⟩
 have hmono : ∀ x, (x ≠ b ∧ (x < w.heap.size → okB w0 ok0 L β x)) → okB w0 ok0 ((d, .str cs) :: kL [d] [] L) (fun j => if j = d then some b else β j) x := fun x hx => by
  refine ⟨?_, fun hlt => (hx.2 (Nat.lt_of_lt_of_le hlt hs.wd)).2 hlt⟩
  rintro ⟨i, o', h1, h2⟩
  by_cases hi : i = d
  ·subst hi; simp at h2; exact hx.1 h2.symm
  ·have hdi : ¬ d = i := fun e => hi e.symm
   have h1 : look (kL [d] [] L) i = some o' := by simpa [look, hdi] using h1
   obtain ⟨j, o2, h3, _, h5⟩ := ownB_kL (β := β) (β' := β) (fun _ _ => rfl) ⟨i, o', h1, by simpa [hi] using h2⟩
   have hown : ownB L β x := ⟨j, o2, h3, h5⟩
   obtain ⟨c1, t1, _, hc1, _⟩ := hs.own_there hown
   exact (hx.2 (lt_of_heap hc1)).1 hown
 obtain ⟨h1, h2⟩ := hs.place (g := some b) (x := .tu [([.p d 0], true), x0]) (v := .tuple #[.pointer (some ⟨b, 0, none⟩), v0]) (is := []) (ob := .str cs) hwd ho (fun x hx _ => hkeep x hx)
  (fun x e => by injection e with e; subst e; exact ⟨.inl hb, xs, ty, lh, hcell, fun cs' ty' lh hc => absurd (lt_of_heap hc) (by omega)⟩) hf
  (fun _ _ => ⟨b, xs, ty, lh, by simp, hcell, hlh, SelfOk.none (noSelf_spec hns), (hrel _).1.okmono hmono⟩) ⟨[.pointer (some ⟨b, 0, none⟩), v0], rfl, ⟨⟨b, by simp, rfl⟩, trivial⟩, (hrel _).2.okmono hmono, trivial⟩ hdn
 show Ka (a.put o.dst (.tuple #[.pointer (some ⟨b, 0, none⟩), v0])) w'
 rw [hod]
 exact hK _ _ _ _ _ _ h1 (by rw [hod]; exact keep_place a d _ hf _) h2 (fun _ => ⟨hwd, hkeep⟩) (hk cs x0 hR)
theorem call1_sound {q : Bool} {o : Oper} {g : FuncId} {sargs : List S} {va : List Value} (hn : n ≤ 9000) (hs : Sim P n w0 ok0 own0 β f L p a w) (hargs : RelA P w β (okB w0 ok0 L β) sargs va)
 (hrun : callable P g = true → (execOp a.eval o).run P w = .ok (.enter g va.toArray) w) (h : Call1 q P g sargs n o.dst K f L p)
 (hK : ∀ β' f' L' p' a' w', Sim P n w0 ok0 own0 β' f' L' p' a' w' → Keep o.dst.toList β a β' a' → Tr L β w L' β' w' → (q = true → Stay w w') → K f' L' p' → Ka a' w') : o.wp P a w Ka Q := by
 unfold Call1 at h
 rcases hod : (o.dst : Option Nat) with _ | d
 ·simp [hod] at h
 simp only [hod] at h
 obtain ⟨hdn, h⟩ := h
 rcases h with h | ⟨R, hN, hk⟩ | ⟨R, hN, hk⟩
 rotate_left
 ·exact callN_sound (q := q) hn hs hargs hrun hod hdn hN hk hK
 ·exact callM_sound (q := q) hn hs hargs hrun hod hdn hN hk hK
 obtain ⟨args, objs, T, p0, R, ok, hfam, hq, hsp, cont⟩ := h
 have hpool : ∀ rest, p0 = some rest → (T ++ rest.flatten).Nodup ∧ ∀ b ∈ T ++ rest.flatten, (w0.heap.size ≤ b ∨ own0 b) ∧ (∃ cs t lh, w.heap[b]? = some (.cells cs t lh) ∧ Lh cs.size lh) ∧ ¬ ownB L β b := fun rest e => by
  rcases hsp with ⟨rfl, rfl⟩ | ⟨ps, rest', h1, h2, h3⟩
  ·exact hs.pool rest e
  ·rw [h2] at e; injection e with e; subst e
   obtain ⟨h4, h5⟩ := hs.pool ps h1
   exact ⟨h3.nodup h4, fun b hb => h5 b (h3.mem hb)⟩
 have hT : ∀ b ∈ T, (w0.heap.size ≤ b ∨ own0 b) ∧ (∃ cs t lh, w.heap[b]? = some (.cells cs t lh) ∧ Lh cs.size lh) ∧ ¬ ownB L β b := fun b hb => by
  rcases hsp with ⟨rfl, _⟩ | ⟨ps, rest', _, h2, _⟩
  ·cases hb
  ·exact (hpool rest' h2).2 b (List.mem_append_left _ hb)
 have hTok : ∀ b ∈ T, okB w0 ok0 L β b := fun b hb => ⟨(hT b hb).2.2, fun hlt => by
  rcases (hT b hb).1 with h1 | h1
  ·omega
  ·exact hs.sub.1 b h1⟩
 have hTn : T.Nodup := by
  rcases hsp with ⟨rfl, _⟩ | ⟨ps, rest', _, h2, _⟩
  ·exact List.nodup_nil
  ·exact (List.nodup_append.1 (hpool rest' h2).1).1
 obtain ⟨hcl, hfew, hA, hB, honce, hdisj⟩ := ok
 generalize hρ : rho L sargs args objs = ρ at *
 generalize hbs : brw L ρ sargs args objs = bs at *
 have hd := disjB_spec hdisj
 have hbs1 : ∀ i ∈ brwA sargs (expA 9500 args), i ∈ bs := fun i hi => by rw [← hbs]; exact List.mem_append_left _ hi
 have hbs2 : ∀ i ∈ brwB L ρ (lent args objs), i ∈ bs := fun i hi => by rw [← hbs]; exact List.mem_append_right _ hi
 have hpre := leA_rel hs hB hd hbs1 hA hargs
 have hobj := lent_objs hs hB honce hd hbs2
 have hlentB : ∀ b, ownB (lent args objs) (bc ρ β) b → ownB L β b := fun b ho => by
  obtain ⟨j, i, o1, o2, _, _, h3, _, h4⟩ := ownB_lent hB ho; exact ⟨i, o2, h3, h4⟩
 have hglT : GlW w (fun b => ownB (lent args objs) (bc ρ β) b ∨ b ∈ T) := fun t ht => by
  obtain ⟨h1, h2⟩ := hs.gl t ht
  obtain ⟨h3, _, _, _, h4, _⟩ := hs.sub.2 t ht
  refine ⟨fun h => h.elim (fun h => h1 (hlentB _ h)) fun h => ?_, h2⟩
  rcases (hT _ h).1 with h5 | h5
  ·have := lt_of_heap h4; omega
  ·exact h3 h5
 have hc := hcl.2 w (bc ρ β) (okc w0 ok0 L β bs) va hpre hobj hglT ⟨hTn, fun b hb => ⟨⟨fun h => (hT b hb).2.2 (hlentB b h), .inl (hTok b hb)⟩, (hT b hb).2.1⟩⟩
 unfold Oper.wp
 rw [hrun hcl.1, Oper.upon_enter]
 refine hc.mono ?_
 rintro e w' ⟨v, r, objs', β', rfl, hR, post⟩
 obtain ⟨htold, hk⟩ := cont r objs' hR post.len
 have hlen := post.len
 have hd9 : @LT.lt Nat _ d 10000 := Nat.lt_of_lt_of_le hdn (Nat.le_trans hn (by decide))
 have hflat := post.flat
 simp only [flat, Bool.and_eq_true, decide_eq_true_eq] at hflat
 obtain ⟨⟨⟨fl1, fl2⟩, fl3⟩, fl4⟩ := hflat
 have hol : objs.length ≤ 50 := by rw [← hlen]; exact fl4
 have hwlt : ∀ b, ownB L β b → b < w.heap.size := fun b ho => by obtain ⟨cs, ty, _, hc, _⟩ := hs.own_there ho; exact lt_of_heap hc
 have hstr : ∀ t cs, objs'[t]? = some cs → ∃ i cs', lk ρ (9000 + t) = some i ∧ look L i = some (.str cs') := fun t cs ht => by
  have htl : t < objs.length := by rw [← hlen]; exact (List.getElem?_eq_some_iff.1 ht).1
  have h1 := look_expB_str (k := 0) (List.getElem?_eq_getElem htl) (by omega)
  rw [Nat.zero_add] at h1
  have hnone : look (expAO 9500 args) (9000 + t) = none := look_expAO_none args 9500 _ (by rw [fam_fam (by omega)]; omega) (Nat.le_refl _) (by omega)
  have h2 : look (lent args objs) (9000 + t) = some (.str (expC (9200 + t) objs[t])) := by rw [lent, look_append, hnone]; simpa using h1
  rcases leB_spec hB h2 with ⟨i, o', h3, h4, h5⟩ | ⟨_, _, _, h3⟩
  ·cases o' with
   | str cs' => exact ⟨i, cs', h3, h4⟩
   | arr => exact h5.elim
  ·cases h3
 let β2 : Nat → Option Nat := fun j => if fam j = d then β' (dec j) else β j
 let L2 : Ob := expO (d + 10000) (cellsS r) ++ (strs ρ d 0 objs' ++ kL [d] (used L ρ) L)
 have hβ : ∀ i, hit [d] (used L ρ) i = false → β2 i = β i := fun i hi => by
  have : ¬ fam i = d := fun e => by simp [hit, inN, e] at hi
  simp [β2, this]
 have cases2 : ∀ i o, look L2 i = some o →
  (∃ i', i = bm ρ d i' ∧ β2 i = β' i' ∧ ((∃ j ty m ds F, i' = 9700 + 10000 * j ∧ (cellsS r)[j]? = some (.ow ty m ds F) ∧ o = .arr ty m ds F ∧ look (back r objs') i' = some o) ∨
    (∃ t cs j ty m ds F, objs'[t]? = some cs ∧ cs[j]? = some (.ow ty m ds F) ∧ o = .arr ty m ds F ∧ i' = 9200 + t + 10000 * j ∧ look (back r objs') i' = some o) ∨
    (∃ t cs, objs'[t]? = some cs ∧ i' = 9000 + t ∧ o = .str (expC (nk d t) cs) ∧ β2 i = β i ∧ look (back r objs') i' = some (.str (expC (9200 + t) cs))))) ∨
  (∃ o', look L i = some o' ∧ o = kO [d] (used L ρ) o' ∧ hit [d] (used L ρ) i = false ∧ ∀ b, β i = some b → ¬ ownB (lent args objs) (bc ρ β) b) := by
  intro i o hl
  simp only [L2, look_append] at hl
  cases h1 : look (expO (d + 10000) (cellsS r)) i with
  | some o' =>
   simp [h1] at hl; subst hl
   obtain ⟨j, ty, m, ds, F, h2, h3, h4⟩ := look_expO h1
   have hj := (List.getElem?_eq_some_iff.1 h3).1
   refine .inl ⟨9700 + 10000 * j, ?_, ?_, .inl ⟨j, ty, m, ds, F, rfl, h3, h4, by rw [h4]; exact look_back_res h3⟩⟩
   ·have e1 : fam (9700 + 10000 * j) = 9700 := by simp only [fam]; omega
    have e2 : (9700 + 10000 * j) / 10000 = j := by omega
    simp only [bm, e1, if_true, e2]; exact h2
   ·rw [h2]; simp only [β2]
    rw [if_pos (fam_res hd9), dec_res hd9 (by omega)]
  | none =>
   simp only [h1, Option.none_or] at hl
   cases h2 : look (strs ρ d 0 objs') i with
   | some o' =>
    simp [h2] at hl; subst hl
    rcases look_strs h2 with ⟨t, cs, h3, h4, h5⟩ | ⟨t, cs, j, ty, m, ds, F, h3, h4, h5, h6⟩
    ·rw [Nat.zero_add] at h4 h5
     have ht := (List.getElem?_eq_some_iff.1 h3).1
     obtain ⟨i', cs', h6, h7⟩ := hstr t cs h3
     rw [h4] at h6; injection h6 with h6; subst h6
     have hfi := famOk_mem hfam h4 h7
     have e1 : fam (9000 + t) = 9000 + t := fam_fam (by omega)
     have hb2 : β2 i = β i := by simp only [β2]; rw [if_neg hfi]
     refine .inl ⟨9000 + t, ?_, ?_, .inr (.inr ⟨t, cs, h3, rfl, h5, hb2, ?_⟩)⟩
     ·simp only [bm, e1]; rw [if_neg (by omega), if_pos (by omega), h4]; rfl
     ·rw [hb2, post.fix t (by omega)]; simp [bc, h4]
     ·have := look_expB_str (k := 0) h3 (by omega)
      rw [Nat.zero_add] at this
      exact look_back_obj (by omega) this
    ·rw [Nat.zero_add] at h5
     have ht := (List.getElem?_eq_some_iff.1 h3).1
     have hj := (List.getElem?_eq_some_iff.1 h4).1
     have hl9 := (flatB_mem fl3 h3).2
     have e1 : fam (9200 + t + 10000 * j) = 9200 + t := by simp only [fam]; omega
     have e2 : (9200 + t + 10000 * j) / 10000 = j := by omega
     refine .inl ⟨9200 + t + 10000 * j, ?_, ?_, .inr (.inl ⟨t, cs, j, ty, m, ds, F, h3, h4, h6, rfl, ?_⟩)⟩
     ·have e3 : 9200 + t - 9200 = t := by omega
      simp only [bm, e1, e2]; rw [if_neg (by omega), if_neg (by omega), h5, e3]
     ·rw [h5]; simp only [β2]
      rw [if_pos (fam_nest hd9), dec_nest hd9 (by omega)]
     ·have := look_expB_arr (k := 0) h3 h4 (by omega)
      rw [Nat.zero_add] at this
      rw [h6]; exact look_back_obj (by omega) this
   | none =>
    simp only [h2, Option.none_or] at hl
    rw [look_kL] at hl
    split at hl
    ·cases hl
    rename_i hh
    have hh : hit [d] (used L ρ) i = false := by simpa using hh
    cases hlL : look L i with
    | none => simp [hlL] at hl
    | some o' =>
     simp [hlL] at hl
     refine .inr ⟨o', rfl, hl.symm, hh, fun b hb ho => ?_⟩
     obtain ⟨j, i', oc, o2, h3, h4, h5, h6, h7⟩ := ownB_lent hB ho
     have := hs.inj i i' o' o2 b hlL h5 hb h7
     subst this
     cases o2 with
     | arr ty m ds F =>
      have := used_mem h4 h5
      simp [hit, inN_iff.2 this] at hh
     | str cs2 =>
      cases oc with
      | arr => exact h6.elim
      | str cs3 =>
       rw [lent, look_append] at h3
       cases h8 : look (expAO 9500 args) j with
       | some o3 =>
        simp [h8] at h3
        obtain ⟨_, _, _, _, h9⟩ := look_expAO_arr h8
        rw [h9] at h3; cases h3
       | none =>
        simp [h8] at h3
        rcases look_expB h3 with ⟨t, cs, h9, h10, _⟩ | ⟨t, cs, j', ty, m, ds, F, _, _, _, h9⟩
        ·rw [Nat.zero_add] at h10
         have ht := (List.getElem?_eq_some_iff.1 h9).1
         exact look_strs_lent (k := 0) (d := d) (by rw [hlen]; exact ht) (by rw [Nat.zero_add, ← h10]; exact h4) h2
        ·cases h9
 have own2 : ∀ b, ownB L2 β2 b → ownB (back r objs') β' b ∨ (ownB L β b ∧ ¬ ownB (lent args objs) (bc ρ β) b) := by
  rintro b ⟨i, o, h1, h2⟩
  rcases cases2 i o h1 with ⟨i', h3, h4, h5⟩ | ⟨o', h3, h4, h5, h6⟩
  ·rw [h4] at h2
   rcases h5 with ⟨_, _, _, _, _, _, _, _, h6⟩ | ⟨_, _, _, _, _, _, _, _, _, _, _, h6⟩ | ⟨_, _, _, _, _, _, h6⟩
   ·exact .inl ⟨i', _, h6, h2⟩
   ·exact .inl ⟨i', _, h6, h2⟩
   ·exact .inl ⟨i', _, h6, h2⟩
  ·rw [hβ i h5] at h2
   exact .inr ⟨⟨i, o', h3, h2⟩, h6 b h2⟩
 have hsame : ∀ b, b < w.heap.size → ¬ ownB (lent args objs) (bc ρ β) b → w'.heap[b]? = w.heap[b]? := post.tr.keep
 have not2 : ∀ b, b < w.heap.size → ¬ ownB L β b → ¬ ownB L2 β2 b := fun b hb hn ho => by
  rcases own2 b ho with h1 | ⟨h1, _⟩
  ·exact hn (hlentB b (post.tr.own b hb h1))
  ·exact hn h1
 have stab : Stab w w' (okB w0 ok0 L β) (okB w0 ok0 L2 β2) :=
  ⟨fun b hv hok => ⟨hsame b (vis_lt hv) fun e => hok.1 (hlentB b e), not2 b (vis_lt hv) hok.1, hok.2⟩, post.tr.cells⟩
 have up : ∀ F : Fp, (∀ Fs, F = some Fs → ∀ G ∈ Fs, G ∈ fps r objs') → (bs = [] ∨ F ≠ none) → Up w' (okR w (okc w0 ok0 L β bs) (lent args objs) (bc ρ β) (back r objs') β') (okB w0 ok0 L2 β2) F := by
  intro F hF hT G hG1 hG2 b hb
  obtain ⟨q1, q2⟩ := hG1 b hb
  have q3 : b < w.heap.size → okB w0 ok0 L β b ∨ ownB (lent args objs) (bc ρ β) b := fun hbw => by
   rcases q2 hbw with (hk | ⟨i, hi, _, hbi⟩) | hk
   ·exact .inl hk
   ·rcases hT with hT | hT
    ·rw [hT] at hi; cases hi
    ·cases F with
     | none => exact absurd rfl hT
     | some Fs =>
      have h1 := hG2 Fs rfl b
      have h2 : 0 < G.count b := List.count_pos_iff.2 hb
      have h3 : b ∈ Fs.flatten := List.count_pos_iff.1 (by omega)
      obtain ⟨G', h4, h5⟩ := List.mem_flatten.1 h3
      have h6 : b ∈ (fps r objs').flatten := List.mem_flatten.2 ⟨G', hF Fs rfl G' h4, h5⟩
      rcases (post.fresh.2 b h6).1 with h7 | h7 | h7
      ·omega
      ·exact .inr h7
      ·exact .inl (hTok b h7)
   ·exact .inr hk
  refine ⟨fun ho => ?_, fun hlt => ?_⟩
  ·rcases own2 b ho with h1 | ⟨h1, h2⟩
   ·exact q1 h1
   ·rcases q3 (hwlt b h1) with h3 | h3
    ·exact h3.1 h1
    ·exact h2 h3
  ·rcases q3 (Nat.lt_of_lt_of_le hlt hs.wd) with h3 | h3
   ·exact h3.2 hlt
   ·exact hs.sub.1 b (hs.old b (hlentB b h3) hlt)
 have upR : ∀ x ∈ cellsS r, ∀ F : Fp, (toldC x = true → F ≠ none) → (∀ Fs, F = some Fs → fpC x = Fs) → Up w' (okR w (okc w0 ok0 L β bs) (lent args objs) (bc ρ β) (back r objs') β') (okB w0 ok0 L2 β2) F := fun x hx F h1 h2 =>
  up F (fun Fs e G hG => List.mem_append_left _ (fpL_mem hx G (by rw [h2 Fs e]; exact hG))) (htold.imp id fun h => by
   simp only [Bool.and_eq_true] at h
   exact h1 (toldL_mem h.1 hx))
 have upB : ∀ t cs, objs'[t]? = some cs → ∀ x ∈ cs, ∀ F : Fp, (toldC x = true → F ≠ none) → (∀ Fs, F = some Fs → fpC x = Fs) → Up w' (okR w (okc w0 ok0 L β bs) (lent args objs) (bc ρ β) (back r objs') β') (okB w0 ok0 L2 β2) F := fun t cs ht x hx F h1 h2 =>
  up F (fun Fs e G hG => List.mem_append_right _ (fpB_mem ht hx G (by rw [h2 Fs e]; exact hG))) (htold.imp id fun h => by
   simp only [Bool.and_eq_true] at h
   exact h1 (toldL_mem (toldB_mem h.2 ht) hx))
 have tsl : ∀ m ds F, toldC (.sl m ds F) = true → F ≠ none := fun m ds F h e => by subst e; simp [toldC] at h
 have tow : ∀ ty m ds F, toldC (.ow ty m ds F) = true → F ≠ none := fun ty m ds F h e => by subst e; simp [toldC] at h
 have fsl : ∀ m ds (F : Fp) Fs, F = some Fs → fpC (.sl m ds F) = Fs := fun m ds F Fs e => by subst e; rfl
 have fow : ∀ ty m ds (F : Fp) Fs, F = some Fs → fpC (.ow ty m ds F) = Fs := fun ty m ds F Fs e => by subst e; rfl
 have hr2 : RelS P w' β2 (okB w0 ok0 L2 β2) (expS (d + 10000) r) v :=
  expS_rel fl1 (fun j hj => by simp only [β2]; rw [if_pos (fam_res hd9), dec_res hd9 (by omega)]) (fun m ds F hm => upR _ hm F (tsl m ds F) (fsl m ds F)) post.rel
 have hsim : Sim P n w0 ok0 own0 β2 (upd (kR [d] (used L ρ) f) d (expS (d + 10000) r)) L2 (addP p0 (fps r objs')) (a.put (some d) v) w' := by
  refine ⟨by rw [Go.Vc.Act.size_put]; exact hs.size, by rw [Go.Vc.Act.defers_put]; exact hs.defers, fun i => ?_, fun i o hl => ?_, fun i j o o' b hi hj hbi hbj => ?_, fun b ho hlt => ?_, hs.sub, fun b hb hnb => ?_, hs.wd.trans post.wd,
   ⟨post.outer.1.trans hs.outer.1, post.outer.2.1.trans hs.outer.2.1, post.outer.2.2.trans hs.outer.2.2⟩, fun ps hps => ?_⟩
  ·rw [Go.Vc.getD_put hs.size]
   simp only [upd]
   by_cases hi : i = d
   ·subst hi; simp only [hdn, and_true, if_true]; exact hr2
   ·simp only [hi, false_and, if_false, kR]; exact (hs.slots i).tr hβ stab
  ·rcases cases2 i o hl with ⟨i', h3, h4, h5⟩ | ⟨o', h3, h4, h5, h6⟩
   ·rcases h5 with ⟨j, ty, m, ds, F, e1, h7, e2, h6⟩ | ⟨t, cs, j, ty, m, ds, F, h7, h8, e2, e1, h6⟩ | ⟨t, cs, h7, e1, e2, h8, h6⟩
    ·have := post.obs.rel i' o h6
     rw [e2] at this ⊢
     exact arr_rel h4 (upR _ (List.mem_of_getElem? h7) F (tow ty m ds F) (fow ty m ds F)) this
    ·have := post.obs.rel i' o h6
     rw [e2] at this ⊢
     exact arr_rel h4 (upB t cs h7 _ (List.mem_of_getElem? h8) F (tow ty m ds F) (fow ty m ds F)) this
    ·have := post.obs.rel i' _ h6
     rw [e2]
     obtain ⟨b, vs, ty, lh, q1, q2, hlh, hsf, q3⟩ := this
     have hfl := flatB_mem fl3 h7
     have ht := (List.getElem?_eq_some_iff.1 h7).1
     exact ⟨b, vs, ty, lh, h4.trans q1, q2, hlh, hsf.expC, expC_rel hfl.1 (fun j hj => by simp only [β2]; rw [if_pos (fam_nest hd9), dec_nest hd9 (by omega)]) (fun m ds F hm => upB t cs h7 _ hm F (tsl m ds F) (fsl m ds F)) q3⟩
   ·rw [h4]
    refine (hs.objs i o' h3).tr hβ stab h5 fun b hb => hsame b (hwlt b ⟨i, o', h3, hb⟩) (h6 b hb)
  ·rcases cases2 i o hi with ⟨i', h3, h4, h5⟩ | ⟨o1, h3, h4, h5, h6⟩
   ·have l1 : ∃ o1, look (back r objs') i' = some o1 := by
     rcases h5 with ⟨_, _, _, _, _, _, _, _, h6⟩ | ⟨_, _, _, _, _, _, _, _, _, _, _, h6⟩ | ⟨_, _, _, _, _, _, h6⟩ <;> exact ⟨_, h6⟩
    obtain ⟨o1, l1⟩ := l1
    rcases cases2 j o' hj with ⟨j', k3, k4, k5⟩ | ⟨o2, k3, k4, k5, k6⟩
    ·have l2 : ∃ o1, look (back r objs') j' = some o1 := by
      rcases k5 with ⟨_, _, _, _, _, _, _, _, h6⟩ | ⟨_, _, _, _, _, _, _, _, _, _, _, h6⟩ | ⟨_, _, _, _, _, _, h6⟩ <;> exact ⟨_, h6⟩
     obtain ⟨o2, l2⟩ := l2
     have := post.obs.inj i' j' o1 o2 b l1 l2 (by rw [← h4]; exact hbi) (by rw [← k4]; exact hbj)
     rw [h3, k3, this]
    ·rw [hβ j k5] at hbj
     have hb := hwlt b ⟨j, o2, k3, hbj⟩
     exact absurd (post.tr.own b hb ⟨i', o1, l1, by rw [← h4]; exact hbi⟩) (k6 b hbj)
   ·rw [hβ i h5] at hbi
    rcases cases2 j o' hj with ⟨j', k3, k4, k5⟩ | ⟨o2, k3, k4, k5, k6⟩
    ·have l2 : ∃ o1, look (back r objs') j' = some o1 := by
      rcases k5 with ⟨_, _, _, _, _, _, _, _, h6⟩ | ⟨_, _, _, _, _, _, _, _, _, _, _, h6⟩ | ⟨_, _, _, _, _, _, h6⟩ <;> exact ⟨_, h6⟩
     obtain ⟨o2, l2⟩ := l2
     have hb := hwlt b ⟨i, o1, h3, hbi⟩
     exact absurd (post.tr.own b hb ⟨j', o2, l2, by rw [← k4]; exact hbj⟩) (h6 b hbi)
    ·rw [hβ j k5] at hbj
     exact hs.inj i j o1 o2 b h3 k3 hbi hbj
  ·rcases own2 b ho with h1 | ⟨h1, _⟩
   ·exact hs.old b (hlentB b (post.tr.own b (Nat.lt_of_lt_of_le hlt hs.wd) h1)) hlt
   ·exact hs.old b h1 hlt
  ·exact (hsame b (Nat.lt_of_lt_of_le hb hs.wd) fun e => hnb (hs.old b (hlentB b e) hb)).trans (hs.frame b hb hnb)
  ·cases p0 with
   | none => simp [addP] at hps
   | some ps0 =>
    simp only [addP, Option.some.injEq] at hps
    subst hps
    obtain ⟨h0, h2'⟩ := hpool ps0 rfl
    obtain ⟨_, h1, h0'⟩ := List.nodup_append.1 h0
    have h2 := fun b (hb : b ∈ ps0.flatten) => h2' b (List.mem_append_right _ hb)
    obtain ⟨h3, h4⟩ := post.fresh
    rw [List.flatten_append]
    refine ⟨List.nodup_append.2 ⟨h1, h3, fun x hx y hy e => ?_⟩, fun b hb => ?_⟩
    ·subst e
     obtain ⟨_, ⟨cs, t, lh, h6, _⟩, h7⟩ := h2 x hx
     rcases (h4 x hy).1 with h8 | h8 | h8
     ·have := lt_of_heap h6; omega
     ·exact h7 (hlentB x h8)
     ·exact h0' x h8 x hx rfl
    ·rcases List.mem_append.1 hb with hb | hb
     ·obtain ⟨h5, ⟨cs, t, lh, h6, hlh⟩, h7⟩ := h2 b hb
      have hbw := lt_of_heap h6
      exact ⟨h5, ⟨cs, t, lh, (hsame b hbw fun e => h7 (hlentB b e)).trans h6, hlh⟩, not2 b hbw h7⟩
     ·obtain ⟨h5, h6, h7⟩ := h4 b hb
      refine ⟨?_, h6, fun ho => ?_⟩
      ·rcases h5 with h5 | h5 | h5
       ·exact .inl (Nat.le_trans hs.wd h5)
       ·by_cases hlt : b < w0.heap.size
        ·exact .inr (hs.old b (hlentB b h5) hlt)
        ·exact .inl (by omega)
       ·exact (hT b h5).1
      ·rcases own2 b ho with h8 | ⟨h8, h9⟩
       ·exact h7 h8
       ·rcases h5 with h5 | h5 | h5
        ·have := hwlt b h8; omega
        ·exact h9 h5
        ·exact (hT b h5).2.2 h8
 show Ka (a.put o.dst v) w'
 rw [hod]
 refine hK β2 _ L2 _ _ w' hsim ?_ ⟨post.wd, fun b hb hn => hsame b hb fun e => hn (hlentB b e), fun b hb ho => ?_, post.tr.cells⟩ (fun e => ⟨post.wd, fun b hb => hsame b hb fun ho => ?_⟩) hk
 ·rw [hod]
  exact ⟨fun j hj => by
   have : ¬ fam j = d := fun e => hj (by simp [e])
   simp [β2, this], fun j hj => by rw [Go.Vc.getD_put rfl, if_neg (fun e => hj (by simp [e.1]))]⟩
 ·rcases own2 b ho with h1 | ⟨h1, _⟩
  ·exact hlentB b (post.tr.own b hb h1)
  ·exact h1
 ·rw [hq e] at ho
  obtain ⟨i, o, h1, _⟩ := ho
  simp [look] at h1
theorem fSs_rel {ok ok' : Nat → Prop} (h : ∀ b, ok b → ok' b) {i m : Nat} {x : C} (hx : ∀ y, OwnS P w (β i) m y → RelC P w β ok' x y) : ∀ {ss : List S} {vs : List Value}, RelA P w β ok ss vs → RelA P w β ok' (fSs i m x ss) vs
 | [], [], _ => trivial
 | _ :: _, _ :: _, hr => ⟨fS_rel h hx hr.1, fSs_rel h hx hr.2⟩
 | [], _ :: _, hr => hr.elim
 | _ :: _, [], hr => hr.elim
theorem frzL_sound {k : List S → K0} : ∀ (is : List Nat) {ss : List S} {f : Rg} {L : Ob} {p : Po} {vs : List Value}, Sim P n w0 ok0 own0 β f L p a w → RelA P w β (okB w0 ok0 L β) ss vs → frzL is ss k f L p →
 ∃ ss' f' L' p', k ss' f' L' p' ∧ Sim P n w0 ok0 own0 β f' L' p' a w ∧ Tr L β w L' β w ∧ RelA P w β (okB w0 ok0 L' β) ss' vs
 | [], ss, f, L, p, vs, hs, hr, h => ⟨ss, f, L, p, h, hs, Tr.refl _ _ _, hr⟩
 | i :: is, ss, f, L, p, vs, hs, hr, h => by
  simp only [frzL] at h
  obtain ⟨m, x, f', L', p', hk, hs', ht, hm, hx⟩ := frz_sound hs h
  obtain ⟨ss', f'', L'', p'', hk', hs'', ht', hr'⟩ := frzL_sound is hs' (fSs_rel hm hx hr) hk
  exact ⟨ss', f'', L'', p'', hk', hs'', ht.trans ht', hr'⟩
theorem call_sound {q : Bool} {o : Oper} {g : FuncId} {sargs : List S} {va : List Value} (hn : n ≤ 9000) (hs : Sim P n w0 ok0 own0 β f L p a w) (hargs : RelA P w β (okB w0 ok0 L β) sargs va)
 (hrun : callable P g = true → (execOp a.eval o).run P w = .ok (.enter g va.toArray) w) (h : CallQ q P g sargs n o.dst K f L p)
 (hK : ∀ β' f' L' p' a' w', Sim P n w0 ok0 own0 β' f' L' p' a' w' → Keep o.dst.toList β a β' a' → Tr L β w L' β' w' → (q = true → Stay w w') → K f' L' p' → Ka a' w') : o.wp P a w Ka Q := by
 obtain ⟨is, h⟩ := h
 obtain ⟨ss', f', L', p', h', hs', ht, hr'⟩ := frzL_sound is hs hargs h
 exact call1_sound (q := q) hn hs' hr' hrun h' fun β2 f2 L2 p2 a2 w2 h1 h2 h3 h4 h5 => hK β2 f2 L2 p2 a2 w2 h1 h2 (ht.trans h3) h4 h5
end
end Go.Dv
namespace Go.Dv
open Go Go.RowKit
open Go.Vc (vis vis_of_cell CellF RowF ValsF D inN okV callable wp_value Stay Sw lodO guardSlot arr1 arr2 map1 map2 callFunc_run)
variable [Out]
section
variable {P : Program} {n : Nat} {w0 : World} {ok0 own0 : Nat → Prop} {β : Nat → Option Nat} {f : Rg} {L : Ob} {p : Po} {a : Act} {w : World}
 {K : K0} {Ka : Act → World → Prop} {Q : Exit → Act → World → Prop}
def eff (q : Bool) (o : Oper) : Bool :=
 match o.op with
 | .store .. => true
 | .call c => (match c.callee with | .builtin .append => true | .value _ => !q | _ => false)
 | _ => false
abbrev AbsE (P : Program) (n : Nat) (w0 : World) (ok0 own0 : Nat → Prop) (β : Nat → Option Nat) (L : Ob) (a : Act) (w : World) (ds : List Nat) (e : Bool) (K : K0) (Ka : Act → World → Prop) : Prop :=
 ∀ β' f' L' p' a' w', Sim P n w0 ok0 own0 β' f' L' p' a' w' → Keep ds β a β' a' → Tr L β w L' β' w' → (e = false → Stay w w') → K f' L' p' → Ka a' w'
theorem RelA.append {ok : Nat → Prop} : ∀ {xs ys : List S} {vs us : List Value}, RelA P w β ok xs vs → RelA P w β ok ys us → RelA P w β ok (xs ++ ys) (vs ++ us)
 | [], _, [], _, _, h => h
 | _ :: _, _, _ :: _, _, h, k => ⟨h.1, RelA.append h.2 k⟩
 | [], _, _ :: _, _, h, _ => h.elim
 | _ :: _, _, [], _, h, _ => h.elim
theorem RelA.ptrs {ok : Nat → Prop} : ∀ {is : List Nat} {vs : List Value}, Ptrs β is vs → RelA P w β ok (is.map fun i => .c (.p i 0)) vs
 | [], [], _ => trivial
 | _ :: _, _ :: _, h => ⟨h.1, RelA.ptrs h.2⟩
 | [], _ :: _, h => h.elim
 | _ :: _, [], h => h.elim
theorem RelA.evs (hs : Sim P n w0 ok0 own0 β f L p a w) : ∀ {xs : List Operand}, xs.all okOpd = true → RelA P w β (okB w0 ok0 L β) (xs.map (ev f)) (xs.map a.eval)
 | [], _ => trivial
 | x :: r, h => by
  simp only [List.all_cons, Bool.and_eq_true] at h
  exact ⟨ev_rel hs h.1, RelA.evs hs h.2⟩
theorem dOp_sound {q : Bool} {o : Oper} (hn : n ≤ 9000) (hok : okOper o = true) (hs : Sim P n w0 ok0 own0 β f L p a w) (h : dOp (CallQ q P) P n o K f L p)
 (hK : AbsE P n w0 ok0 own0 β L a w o.dst.toList (eff q o) K Ka) : o.wp P a w Ka Q := by
 have hKS : AbsS P n w0 ok0 own0 β L a w o.dst.toList K Ka := fun β' f' L' p' a' w' h1 h2 h3 h4 h5 => hK β' f' L' p' a' w' h1 h2 h3 (fun _ => h4) h5
 have hn' : n ≤ 10000 := by omega
 by_cases ht : takeO o = true
 ·obtain ⟨x, v, hr, hv, hk⟩ := take_yv hok hs h ht
  exact wp_value (hr w fun _ => Stay.refl w) (hK _ _ _ _ _ _ (hs.put o.dst hv) (keep_put a o.dst v) (Tr.refl _ _ _) (fun _ => Stay.refl w) hk)
 ·cases ho : o.op <;> simp only [takeO, ho, not_true_eq_false] at ht
  case alloc t => exact alloc_step ho hn' hs h hKS
  case box t x => exact box_step ho hok hn' hs h hKS
  case buildSlice T len ps => exact buildSlice_step ho hok hn' hs h hKS
  case makeSlice T l c => exact makeSlice_step ho hok hn' hs h hKS
  case store t x y =>
   refine store_step ho hok hs h fun β' f' L' p' a' w' h1 h2 h3 h4 => hK β' f' L' p' a' w' h1 h2 h3 (fun e => ?_) h4
   simp [eff, ho] at e
  case call c =>
   have hok' := hok
   simp only [okOper, Op.operands, ho] at hok'
   simp only [dOp, ho] at h
   split at h
   ·rename_i g hg
    split at h
    case h_2 => exact h.elim
    rename_i gid fs cs hev
    have hgo : okOpd g = true ∧ c.args.toList.all okOpd = true := by
     simp only [Call.operands, hg] at hok'
     simpa using hok'
    have hgr := ev_rel hs hgo.1
    rw [hev] at hgr
    obtain ⟨va, vb, hge, hpa, hpb⟩ := hgr
    have hargs := (RelA.ptrs (P := P) (w := w) (ok := okB w0 ok0 L β) hpa).append ((RelA.evs hs hgo.2).append (RelA.ptrs hpb))
    rw [← List.append_assoc] at hargs
    refine call_sound hn hs hargs (fun hc => ?_) h fun β' f' L' p' a' w' h1 h2 h3 h4 h5 => hK β' f' L' p' a' w' h1 h2 h3 (fun e => h4 ?_) h5
    ·have he : va.toArray ++ c.args.map a.eval ++ vb.toArray = (va ++ (c.args.toList.map a.eval ++ vb)).toArray := by
      rw [← Array.toList_map]; simp
     rw [← he]
     simp [execOp, ho, resolve, hg, hge, Deferred.ofValue, invoke, callFunc_run hc]
    ·simpa [eff, ho, hg] using e
   ·rename_i hg; simp [hg] at ht
   ·rename_i hg; simp [hg] at ht
   ·rename_i hg; simp [hg] at ht
   ·rename_i hg
    split at h
    case h_2 => exact h.elim
    rename_i sv tv T U hargs hTU
    obtain ⟨hTU', hzo, h⟩ := h
    have hdU : ∃ dU, P.underlying U = some dU ∧ ∀ k, dU ≠ .int k := by
     rcases hTU' with rfl | hl
     ·unfold dAppend at h
      split at h
      ·exact h.elim
      ·rename_i e sz by' hel
       exact ⟨_, (Go.Vc.elemS_spec hel).1, fun k e => by cases e⟩
     ·unfold Go.Vc.lenK at hl
      split at hl
      ·cases hl
      ·rename_i hu; exact ⟨_, hu, fun k e => by cases e⟩
      ·cases hl
    obtain ⟨dU, hU, hUd⟩ := hdU
    obtain ⟨x, y, hxy, rfl, rfl⟩ := map2 hargs
    have ha := arr2 hxy
    have hT := arr2 hTU
    have hc : c = { callee := .builtin .append, args := #[x, y], argTypes := #[T, U] } := by
     obtain ⟨c1, c2, c3⟩ := c
     simp only at hg ha hT; subst hg ha hT; rfl
    simp only [Call.operands, hg, ha] at hok'
    have hxo : okOpd x = true ∧ okOpd y = true := by simpa using hok'
    rw [hc] at ho
    refine append_step ho hU hUd hxo.1 hxo.2 hn' hs (fun e sz by' he => ?_) h fun β' f' L' p' a' w' h1 h2 h3 h4 => hK β' f' L' p' a' w' h1 h2 h3 (fun e => by simp [eff, ho] at e) h4
    unfold Go.Vc.zeroOk at hzo
    rw [he] at hzo
    exact Option.isSome_iff_exists.1 hzo
   ·exact h.elim
  all_goals (first | (simp only [dOp, ho] at h; done) | (simp only [dOp, ho] at h; exact h.elim) | (exact absurd h (by simp [dOp, ho])))
def bytesTo (P : Program) (t : TypeId) : Option TypeId :=
 match P.underlying t with
 | some (.slice e) => (match P.underlying e, P.info? e with
  | some (.int .u8), some i => if i.size = 1 then some e else none
  | _, _ => none)
 | _ => none
theorem bytesTo_spec {t e : TypeId} (h : bytesTo P t = some e) : P.underlying t = some (.slice e) ∧ P.underlying e = some (.int .u8) ∧ ∃ i, P.info? e = some i ∧ i.size = 1 := by
 unfold bytesTo at h
 split at h
 ·rename_i e' hu
  split at h
  ·rename_i i h1 h2
   split at h
   ·rename_i h3; injection h with h; subst h; exact ⟨hu, h1, i, h2, h3⟩
   ·cases h
  ·cases h
 ·cases h
theorem bytes_step {o : Oper} {s t e : TypeId} {x : Operand} {u : ByteArray} (ho : o.op = .convert s t x) (hok : okOper o = true) (hn : n ≤ 10000) (hs : Sim P n w0 ok0 own0 β f L p a w) (hb : bytesTo P t = some e) (hx : ev f x = .c (.v (.string u)))
 (hl : Go.Vc.lenK P s = 2) (h : create n o.dst [] (.arr e u.size (bytesD u.data.toList) none) (fun d => .s d u.size) K f L p) (hK : AbsS P n w0 ok0 own0 β L a w o.dst.toList K Ka) : o.wp P a w Ka Q := by
 obtain ⟨h1, h2, i, h3, h4⟩ := bytesTo_spec hb
 have hxr := ev_rel hs (x := x) (by simpa [okOper, Op.operands, ho] using hok)
 rw [hx] at hxr
 obtain ⟨hxe, hu⟩ := hxr
 have hu : u.size ≤ maxLen := hu
 have hsu : P.underlying s = some .string := by
  unfold Go.Vc.lenK at hl
  split at hl
  ·cases hl
  ·assumption
  ·cases hl
 have hr : (execOp a.eval o).run P w = .ok (.value (.slice (some ⟨w.heap.size, 0, none⟩) u.size (grownCap w u.size 0 e))) (Lib.bytesWorld w e u) := by
  have := Lib.run_convert_string_bytes (P := P) w s t e u hsu h1 h2
  simp [execOp, ho, hxe, this]
 have hnew := Lib.bytesWorld_at_new w e u
 have hcap := grownCap_ge w u.size 0 e
 have hsz : (Lib.bytesCells w e u).size = grownCap w u.size 0 e := by
  have : u.data.size = u.size := rfl
  simp [Lib.bytesCells, this]; omega
 refine create_soundG (mk := fun d => .s d u.size) hn hs hr (by rw [Lib.bytesWorld_size]; omega) (fun b hb => Lib.bytesWorld_at_old w e u b hb) hnew ?_ (fun d _ hβ hst => ?_) (fun d _ ok' => ?_) h hK
 ·refine ⟨?_, ?_, ?_⟩ <;> simp [Lib.bytesWorld, World.freeze, World.alloc, World.drew, -World.alloc_eq, -World.drew_eq]
 ·refine arr_new (sz := 1) (F := none) (hd := Lib.strCells u) (G := []) (junk := List.replicate (grownCap w u.size 0 e - u.size) (.int .u8 0)) h3 h4 hst (bytesD_vals w u) (by simp) (fun Fs e => by cases e) (fun e => absurd rfl e) (by simp) hnew (Lh.of_le (Nat.le_refl _)) (by simp [Lib.bytesCells, Lib.strCells]) ?_
  simp [bytesD]
 ·show OwnS P _ (if d = d then some w.heap.size else β d) u.size _
  rw [if_pos rfl]
  refine ⟨grownCap w u.size 0 e, _, e, _, rfl, hcap, grownCap_le_maxLen w u.size 0 e hu, hnew, fun s hss => ?_⟩
  simp only [h3, Option.map_some, Option.some.injEq] at hss
  rw [hsz, ← hss, h4]; omega
def dOpF (CT : CallT) (P : Program) (n : Nat) (o : Oper) (K : K0) : K0 := fun f L p =>
 match o.op with
 | .slice _ x _ _ _ => (match slOf (ev f x) with
  | some i => frz i (fun _ _ => dOp CT P n o K) f L p
  | none => dOp CT P n o K f L p)
 | .convert s t x => (match bytesTo P t, ev f x with
  | some e, .c (.v (.string u)) => Go.Vc.lenK P s = 2 ∧ create n o.dst [] (.arr e u.size (bytesD u.data.toList) none) (fun d => .s d u.size) K f L p
  | _, _ => dOp CT P n o K f L p)
 | _ => dOp CT P n o K f L p
theorem dOpF_sound {q : Bool} {o : Oper} (hn : n ≤ 9000) (hok : okOper o = true) (hs : Sim P n w0 ok0 own0 β f L p a w) (h : dOpF (CallQ q P) P n o K f L p)
 (hK : AbsE P n w0 ok0 own0 β L a w o.dst.toList (eff q o) K Ka) : o.wp P a w Ka Q := by
 unfold dOpF at h
 split at h
 ·split at h
  ·obtain ⟨m, x, f', L', p', hk, hs', ht, _⟩ := frz_sound hs h
   exact dOp_sound hn hok hs' hk fun β' f' L' p' a' w' h1 h2 h3 h4 h5 => hK β' f' L' p' a' w' h1 h2 (ht.trans h3) h4 h5
  ·exact dOp_sound hn hok hs h hK
 ·rename_i ho
  split at h
  ·rename_i hb hx
   refine bytes_step ho hok (by omega) hs hb hx h.1 h.2 fun β' f' L' p' a' w' h1 h2 h3 h4 h5 => hK β' f' L' p' a' w' h1 h2 h3 (fun _ => h4) h5
  ·exact dOp_sound hn hok hs h hK
 ·exact dOp_sound hn hok hs h hK
def dl (P : Program) (n : Nat) (ops : Array Oper) (K : K0) : List Oper → K0
 | [] => K
 | o :: r => fun f L p =>
  match o.guard with
  | none => dOpF (CallK P) P n o (dl P n ops K r) f L p
  | some (j, want) => match guardSlot ops j with
   | none => False
   | some g => match f g with
    | .c (.v (.bool b)) => (b = want → dOpF (CallK P) P n o (dl P n ops K r) (upd f g (.c (.v (.bool want)))) L p) ∧
     (b = (!want) → dl P n ops K r (put n (upd f g (.c (.v (.bool !want)))) o.dst (.tu [])) L p)
    | .tu [] => dl P n ops K r (put n f o.dst (.tu [])) L p
    | _ => False
def dGuard (n : Nat) (ops : Array Oper) (o : Oper) (step : K0 → K0) (K : K0) : K0 := fun f L p =>
 match o.guard with
 | none => step K f L p
 | some (j, want) => match guardSlot ops j with
  | none => False
  | some g => match f g with
   | .c (.v (.bool b)) => (b = want → step K (upd f g (.c (.v (.bool want)))) L p) ∧
    (b = (!want) → K (put n (upd f g (.c (.v (.bool !want)))) o.dst (.tu [])) L p)
   | .tu [] => K (put n f o.dst (.tu [])) L p
   | _ => False
theorem dl_cons {P : Program} {n : Nat} {ops : Array Oper} {K : K0} {o : Oper} {r : List Oper} {f : Rg} {L : Ob} {p : Po} : dl P n ops K (o :: r) f L p = dGuard n ops o (dOpF (CallK P) P n o) (dl P n ops K r) f L p := rfl
theorem Sim.refine_slot (h : Sim P n w0 ok0 own0 β f L p a w) {g : Nat} {x : S} (hx : RelS P w β (okB w0 ok0 L β) x (a.tmps.getD g undef)) : Sim P n w0 ok0 own0 β (upd f g x) L p a w :=
 ⟨h.size, h.defers, fun i => by simp only [upd]; split <;> first | (rename_i e; subst e; exact hx) | exact h.slots i, h.objs, h.inj, h.old, h.sub, h.frame, h.wd, h.outer, h.pool⟩
variable {ops : Array Oper}
theorem dGuard_sound {o : Oper} {step : K0 → K0} (hs : Sim P n w0 ok0 own0 β f L p a w) (h : dGuard n ops o step K f L p) :
 (Region.wanted o (yielded ops a.tmps) = true ∧ ∃ f1, Sim P n w0 ok0 own0 β f1 L p a w ∧ step K f1 L p) ∨
 (Region.wanted o (yielded ops a.tmps) = false ∧ ∃ f1, Sim P n w0 ok0 own0 β f1 L p a w ∧ K (put n f1 o.dst (.tu [])) L p) := by
 unfold dGuard at h
 split at h
 ·rename_i hg
  exact .inl ⟨by simp [Region.wanted, hg], f, hs, h⟩
 ·rename_i j want hg
  split at h
  ·exact h.elim
  ·rename_i g hgs
   have hslot := hs.slots g
   have hyl : ∀ b, a.tmps.getD g undef = .bool b → yielded ops a.tmps j = some b := fun b hb => by
    unfold guardSlot at hgs
    simp only [yielded, hgs, Option.bind_some]
    have : a.tmps[g]? = some (.bool b) := by
     rw [Array.getD_eq_getD_getElem?] at hb
     cases hq : a.tmps[g]? with
     | none => simp [hq, undef] at hb
     | some q => simp [hq] at hb; rw [hb]
    rw [this]
   split at h
   ·rename_i b hb
    rw [hb] at hslot
    obtain ⟨hslot, _⟩ := hslot
    have hy := hyl b hslot
    by_cases hbw : b = want
    ·subst hbw
     exact .inl ⟨by simp [Region.wanted, hg, hy], _, hs.refine_slot (x := .c (.v (.bool b))) ⟨hslot, trivial⟩, h.1 rfl⟩
    ·have hbn : b = !want := by cases b <;> cases want <;> simp_all
     subst hbn
     exact .inr ⟨by simp [Region.wanted, hg, hy], _, hs.refine_slot (x := .c (.v (.bool !want))) ⟨hslot, trivial⟩, h.2 rfl⟩
   ·rename_i hb
    rw [hb] at hslot
    obtain ⟨ys, hslot, _⟩ := hslot
    have hy : yielded ops a.tmps j = none := by
     unfold guardSlot at hgs
     simp only [yielded, hgs, Option.bind_some]
     rw [Array.getD_eq_getD_getElem?] at hslot
     cases hq : a.tmps[g]? with
     | none => rfl
     | some q => simp [hq] at hslot; subst hslot; rfl
    exact .inr ⟨by simp [Region.wanted, hg, hy], f, hs, h⟩
   ·exact h.elim
theorem undef_rel {ok : Nat → Prop} : RelS P w β ok (.tu []) undef := ⟨[], rfl, trivial⟩
def okOps (l : List Oper) : Bool := l.all okOper
theorem dl_sound (hn : n ≤ 9000) : ∀ (l : List Oper) {β : Nat → Option Nat} {f : Rg} {L : Ob} {p : Po} {a : Act} {w : World}, okOps l = true → Sim P n w0 ok0 own0 β f L p a w → dl P n ops K l f L p →
 Abs P n w0 ok0 own0 β L a w (Go.Vc.dstsOps l) K (Q .normal) → wpList P ops Q l a w
 | [], β, f, L, p, a, w, _, hs, h, hK => hK _ _ _ _ _ _ hs (Keep.refl _ _ _) (Tr.refl _ _ _) h
 | o :: r, β, f, L, p, a, w, hok, hs, h, hK => by
  simp only [okOps, List.all_cons, Bool.and_eq_true] at hok
  rw [dl_cons] at h
  have step : ∀ {β' f' L' p' a' w'}, Sim P n w0 ok0 own0 β' f' L' p' a' w' → Keep o.dst.toList β a β' a' → Tr L β w L' β' w' → dl P n ops K r f' L' p' → wpList P ops Q r a' w' := fun hs' hk ht h' =>
   dl_sound hn r hok.2 hs' h' fun _ _ _ _ _ _ hs'' hk' ht' h'' => hK _ _ _ _ _ _ hs'' ((hk.trans hk').mono fun j hj => by
    simp only [Go.Vc.dstsOps]
    cases hd : o.dst with
    | none => simpa [hd] using hj
    | some d => simpa [hd] using hj) (ht.trans ht') h''
  unfold wpList
  rcases dGuard_sound hs h with ⟨hw, f1, hs1, h1⟩ | ⟨hw, f1, hs1, h1⟩
  ·rw [if_pos hw]; exact .inl (dOpF_sound (q := false) hn hok.1 hs1 h1 fun β' f' L' p' a' w' q1 q2 q3 _ q5 => step q1 q2 q3 q5)
  ·rw [if_neg (by simp [hw])]; exact step (hs1.put o.dst undef_rel) (keep_put _ _ _) (Tr.refl _ _ _) h1
end
end Go.Dv
namespace Go.Dv
open Go Go.RowKit
open Go.Vc (vis vis_of_cell CellF RowF ValsF D inN okV callable wp_value Stay Sw lodO guardSlot Plan desc inX wpAnyB wpAnyB_first wpAny_of_B Closed dstsOps dst_mem closed_start)
variable [Out]
def exD (xs : List Nat) (o : Oper) : Bool :=
 (match o.op with
 | .store .. => true
 | .call c => (match c.callee with | .builtin .append => true | _ => false)
 | _ => false) || inX xs o
def okTakeD (ops : Array Oper) (xs : List Nat) (listed : Array Bool) (i : Nat) : Bool :=
 match ops[i]? with
 | none => false
 | some oi => takeO oi && (!lodO oi || (List.range ops.size).all fun j => listed.getD j true || (match ops[j]? with | some oj => !exD xs oj | none => true) || desc ops i ops.size j)
def planOkD (ops : Array Oper) (xs : List Nat) : Nat → Array Bool → Bool → Plan → Bool
 | _, listed, top, .done => top && (Region.ready .any ops listed).isEmpty
 | _, _, top, .nobr => !top
 | fuel, listed, top, .take i p => decide (0 < fuel) && top && (Region.ready .any ops listed).contains i && Region.free .any ops listed i && okTakeD ops xs listed i && planOkD ops xs (fuel - 1) (listed.setIfInBounds i true) true p
 | fuel, listed, top, .br i p q => decide (0 < fuel) && (!top || (Region.ready .any ops listed == i :: q.heads)) && planOkD ops xs (fuel - 1) (listed.setIfInBounds i true) true p && planOkD ops xs fuel listed false q
def dPlan (P : Program) (n : Nat) (ops : Array Oper) (xs : List Nat) (K : K0) : Plan → K0
 | .done => K
 | .nobr => fun _ _ _ => True
 | .take i p => fun f L q => match ops[i]? with
  | some o => dGuard n ops o (dOp (CallK P) P n o) (dPlan P n ops xs K p) f L q
  | none => False
 | .br i p r => fun f L q => (match ops[i]? with
  | some o => dGuard n ops o (dOpF (CallQ (!inX xs o) P) P n o) (dPlan P n ops xs K p) f L q
  | none => False) ∧ dPlan P n ops xs K r f L q
def okAll (ops : Array Oper) : Bool := ops.toList.all okOper
def dDrawn (P : Program) (n : Nat) (ops : Array Oper) (K : K0) : K0 := fun f L q =>
 Region.noSelect ops = true ∧ ∃ (xs : List Nat) (p : Plan), planOkD ops xs ops.size (Array.replicate ops.size false) true p = true ∧ dPlan P n ops xs K p f L q
section
variable {P : Program} {n : Nat} {w0 : World} {ok0 own0 : Nat → Prop} {β : Nat → Option Nat} {f : Rg} {L : Ob} {p : Po} {a : Act} {w : World}
 {K : K0} {Q : Exit → Act → World → Prop} {ops : Array Oper} {xs : List Nat}
theorem eff_ex {o : Oper} (h : eff (!inX xs o) o = true) : exD xs o = true := by
 unfold eff at h
 unfold exD
 cases ho : o.op <;> simp only [ho] at h ⊢ <;> first | rfl | cases h | skip
 split at h
 ·rename_i hc; simp [hc]
 ·rename_i hc; simp [hc]; simpa using h
 ·cases h
theorem dPlan_sound (hn : n ≤ 9000) (hoks : okAll ops = true) (hsel : Region.noSelect ops = true) (hQ : ∀ c a w, ¬ Q (.panic c) a w) : ∀ (r : Plan),
 (∀ (fuel : Nat) (listed : Array Bool) {β : Nat → Option Nat} {f : Rg} {L : Ob} {p : Po} {a : Act} {w : World}, planOkD ops xs fuel listed true r = true → Closed ops listed →
   Sim P n w0 ok0 own0 β f L p a w → dPlan P n ops xs K r f L p → Abs P n w0 ok0 own0 β L a w (dstsOps ops.toList) K (Q .normal) → wpAnyB P ops (exD xs) Q fuel listed a w) ∧
 (∀ (fuel : Nat) (listed : Array Bool) {β : Nat → Option Nat} {f : Rg} {L : Ob} {p : Po} {a : Act} {w : World}, planOkD ops xs fuel listed false r = true → Closed ops listed →
   (∀ i ∈ r.heads, i ∈ Region.ready .any ops listed) →
   Sim P n w0 ok0 own0 β f L p a w → dPlan P n ops xs K r f L p → Abs P n w0 ok0 own0 β L a w (dstsOps ops.toList) K (Q .normal) → ∀ i ∈ r.heads,
    0 < fuel ∧ wpOp P ops Q i (fun a' w' => ((∃ o, ops[i]? = some o ∧ exD xs o = true) ∨ Stay w w') ∧ wpAnyB P ops (exD xs) Q (fuel - 1) (listed.setIfInBounds i true) a' w') a w) := by
 have hoko : ∀ {i o}, ops[i]? = some o → okOper o = true := fun {i o} ho => List.all_eq_true.1 hoks o (by
  have := List.mem_of_getElem? (l := ops.toList) (i := i) (a := o) (by simpa using ho)
  exact this)
 intro r
 induction r with
 | done =>
  refine ⟨fun fuel listed β f L p a w hp hc hs h hK => ?_, fun fuel listed β f L p a w hp => by simp [planOkD] at hp⟩
  simp only [planOkD, Bool.true_and, List.isEmpty_iff] at hp
  have hq : Q .normal a w := hK _ _ _ _ _ _ hs (Keep.refl _ _ _) (Tr.refl _ _ _) h
  cases fuel with
  | zero => exact ⟨hp, hq⟩
  | succ k => exact ⟨fun _ => hq, by rw [hp]; simp⟩
 | nobr => exact ⟨fun fuel listed β f L p a w hp => by simp [planOkD] at hp, fun fuel listed β f L p a w hp hc hr hs h hK i hi => by simp [Plan.heads] at hi⟩
 | take i r ih =>
  refine ⟨fun fuel listed β f L p a w hp hc hs h hK => ?_, fun fuel listed β f L p a w hp => by simp [planOkD] at hp⟩
  simp only [planOkD, Bool.and_eq_true, decide_eq_true_eq] at hp
  obtain ⟨⟨⟨⟨⟨hfu, _⟩, hr⟩, hfree⟩, hok⟩, hp⟩ := hp
  have hr : i ∈ Region.ready .any ops listed := by simpa using hr
  obtain ⟨k, rfl⟩ : ∃ k, fuel = k + 1 := ⟨fuel - 1, by omega⟩
  simp only [Nat.add_sub_cancel] at hp
  unfold dPlan at h
  split at h
  case h_2 => exact h.elim
  rename_i o ho
  unfold okTakeD at hok
  simp only [ho, Bool.and_eq_true] at hok
  obtain ⟨htake, hok⟩ := hok
  have hex : lodO o = true → ∀ j oj, ops[j]? = some oj → listed.getD j true = false → exD xs oj = true → desc ops i ops.size j = true := fun hl j oj hj hun hx => by
   simp only [hl, Bool.not_true, Bool.false_or, List.all_eq_true, List.mem_range] at hok
   have := hok j (Array.getElem?_eq_some_iff.1 hj).1
   simpa [hun, hj, hx] using this
  have go : ∀ {x : S} {v : Value} {f1 : Rg}, Sim P n w0 ok0 own0 β f1 L p a w → YieldsIf P ops (Sw o w) o v a → RelS P w β (okB w0 ok0 L β) x v → dPlan P n ops xs K r (put n f1 o.dst x) L p → wpAnyB P ops (exD xs) Q (k + 1) listed a w := by
   intro x v f1 hs1 hy hcx hk
   refine wpAnyB_first ho (Region.noSelect_spec hsel) (fun c a w hq => (hQ _ _ _ hq).elim) k listed a w hc (Region.free_spec ho hfree) hex hr hy ?_
   refine ih.1 k _ hp (hc.set hr) (hs1.put o.dst hcx) hk fun β' f' L' p' a' w' hs' hk' ht' h' => hK _ _ _ _ _ _ hs' (((keep_put a o.dst v).trans hk').mono fun j hj => ?_) ht' h'
   rcases List.mem_append.1 hj with hj | hj
   ·exact dst_mem ho j hj
   ·exact hj
  rcases dGuard_sound hs h with ⟨hw, f1, hs1, h1⟩ | ⟨hw, f1, hs1, h1⟩
  ·obtain ⟨x, v, hrun, hcx, hk⟩ := take_yv (hoko ho) hs1 h1 htake
   exact go hs1 (.inl ⟨hw, hrun⟩) hcx hk
  ·exact go (x := .tu []) hs1 (.inr ⟨hw, rfl⟩) undef_rel h1
 | br i r q ihp ihq =>
  have main : ∀ (fuel : Nat) (listed : Array Bool) {β : Nat → Option Nat} {f : Rg} {L : Ob} {p : Po} {a : Act} {w : World}, 0 < fuel → planOkD ops xs (fuel - 1) (listed.setIfInBounds i true) true r = true → Closed ops listed →
   i ∈ Region.ready .any ops listed → Sim P n w0 ok0 own0 β f L p a w → dPlan P n ops xs K (.br i r q) f L p → Abs P n w0 ok0 own0 β L a w (dstsOps ops.toList) K (Q .normal) →
   wpOp P ops Q i (fun a' w' => ((∃ o, ops[i]? = some o ∧ exD xs o = true) ∨ Stay w w') ∧ wpAnyB P ops (exD xs) Q (fuel - 1) (listed.setIfInBounds i true) a' w') a w := by
   intro fuel listed β f L p a w hfu hp hc hr hs h hK
   obtain ⟨h, _⟩ := h
   split at h
   case h_2 => exact h.elim
   rename_i o ho
   unfold wpOp
   simp only [ho]
   have rest : ∀ {β' : Nat → Option Nat} {f' : Rg} {L' : Ob} {p' : Po} {a' : Act} {w' : World}, Sim P n w0 ok0 own0 β' f' L' p' a' w' → Keep o.dst.toList β a β' a' → Tr L β w L' β' w' → dPlan P n ops xs K r f' L' p' → wpAnyB P ops (exD xs) Q (fuel - 1) (listed.setIfInBounds i true) a' w' := by
    intro β' f' L' p' a' w' hs' hk' ht' h'
    refine ihp.1 (fuel - 1) _ hp (hc.set hr) hs' h' fun β'' f'' L'' p'' a'' w'' hs'' hk'' ht'' h'' => hK _ _ _ _ _ _ hs'' ((hk'.trans hk'').mono fun j hj => ?_) (ht'.trans ht'') h''
    rcases List.mem_append.1 hj with hj | hj
    ·exact dst_mem ho j hj
    ·exact hj
   rcases dGuard_sound hs h with ⟨hw, f1, hs1, h1⟩ | ⟨hw, f1, hs1, h1⟩
   ·simp only [hw, if_true]
    refine .inl (dOpF_sound hn (hoko ho) hs1 h1 fun β' f' L' p' a' w' q1 q2 q3 q4 q5 => ⟨?_, rest q1 q2 q3 q5⟩)
    cases he : eff (!inX xs o) o with
    | true => exact .inl ⟨o, rfl, eff_ex he⟩
    | false => exact .inr (q4 he)
   ·simp only [hw, Bool.false_eq_true, if_false]
    exact ⟨.inr (Stay.refl w), rest (hs1.put o.dst undef_rel) (keep_put a o.dst undef) (Tr.refl _ _ _) h1⟩
  refine ⟨fun fuel listed β f L p a w hp hc hs h hK => ?_, fun fuel listed β f L p a w hp hc hr hs h hK j hj => ?_⟩
  ·simp only [planOkD, Bool.and_eq_true, decide_eq_true_eq, Bool.not_true, Bool.false_or, beq_iff_eq] at hp
   obtain ⟨⟨⟨hfu, hready⟩, hp⟩, hq⟩ := hp
   have hin : i ∈ Region.ready .any ops listed := by rw [hready]; simp
   obtain ⟨k, rfl⟩ : ∃ k, fuel = k + 1 := ⟨fuel - 1, by omega⟩
   refine ⟨fun h0 => (by rw [h0] at hready; cases hready), fun j hj => ?_⟩
   rw [hready] at hj
   rcases List.mem_cons.1 hj with rfl | hj
   ·have := main (k + 1) listed hfu hp hc hin hs h hK
    simpa using this
   ·have := (ihq.2 (k + 1) listed hq hc (fun j hj => by rw [hready]; simp [hj]) hs h.2 hK j hj).2
    simpa using this
  ·simp only [planOkD, Bool.and_eq_true, decide_eq_true_eq, Bool.not_false, Bool.true_or, and_true] at hp
   obtain ⟨⟨hfu, hp⟩, hq⟩ := hp
   simp only [Plan.heads] at hj hr
   rcases List.mem_cons.1 hj with rfl | hj
   ·exact ⟨hfu, main fuel listed hfu hp hc (hr j (by simp)) hs h hK⟩
   ·exact ihq.2 fuel listed hq hc (fun j hj => hr j (by simp [hj])) hs h.2 hK j hj
end
end Go.Dv
namespace Go.Dv
open Go Go.RowKit
open Go.Vc (vis vis_of_cell CellF RowF ValsF D inN okV Stay)
variable [Out]
inductive Gh where
 | ren (i j : Nat)
 | virt (s j : Nat) (ty : TypeId)
 | virtC (i off j : Nat) (ty : TypeId)
def renN (i j : Nat) : List Nat → List Nat
 | [] => []
 | k :: r => (if k = i then j else k) :: renN i j r
def renC (i j : Nat) : C → C
 | .p k o => if k = i then .p j o else .p k o
 | .s k m => if k = i then .s j m else .s k m
 | .fn g a b => .fn g (renN i j a) (renN i j b)
 | x => x
def renCs (i j : Nat) : List C → List C
 | [] => []
 | x :: r => renC i j x :: renCs i j r
def renTs (i j : Nat) : List (List C × Bool) → List (List C × Bool)
 | [] => []
 | (cs, b) :: r => (renCs i j cs, b) :: renTs i j r
def renS (i j : Nat) : S → S
 | .c x => .c (renC i j x)
 | .ag cs => .ag (renCs i j cs)
 | .tu xs => .tu (renTs i j xs)
def renO (i j : Nat) : O → O
 | .str cs => .str (renCs i j cs)
 | .arr t m ds F => .arr t m ds F
def renL (i j : Nat) : Ob → Ob
 | [] => []
 | (k, b) :: r => (if k = i then j else k, renO i j b) :: renL i j r
def renR (i j : Nat) (f : Rg) : Rg := fun s => renS i j (f s)
def ghs (ws : List Nat) : List Gh → (Rg → Ob → Prop) → Rg → Ob → Prop
 | [], k, f, L => k f L
 | .ren i j :: r, k, f, L => i ≠ j ∧ inN ws (fam j) = true ∧ ghs ws r k (renR i j (kR [] [j] f)) (renL i j (kL [] [j] L))
 | .virt s j ty :: r, k, f, L => (match kS [] [j] (f s) with | .c (.v (.slice none 0 0)) => True | _ => False) ∧ inN ws (fam j) = true ∧ ghs ws r k (upd (kR [] [j] f) s (.c (.s j 0))) ((j, .arr ty 0 [] (some [])) :: kL [] [j] L)
 | .virtC i off j ty :: r, k, f, L => inN ws (fam j) = true ∧ (match look ((j, .arr ty 0 [] (some [])) :: kL [] [j] L) i with
  | some (.str cs) => (match cs[off]? with
   | some (.v (.slice none 0 0)) => ghs ws r k (kR [] [j] f) (setL ((j, .arr ty 0 [] (some [])) :: kL [] [j] L) i (.str (cs.set off (.s j 0))))
   | _ => False)
  | _ => False)
section
variable {P : Program} {n : Nat} {w0 : World} {ok0 own0 : Nat → Prop} {β : Nat → Option Nat} {f : Rg} {L : Ob} {p : Po} {a : Act} {w : World}
theorem Sim.drew (hs : Sim P n w0 ok0 own0 β f L p a w) : Sim P n w0 ok0 own0 β f L p a w.drew :=
 ⟨hs.size, hs.defers, fun j => RelS.st (w := w) (w' := w.drew) ⟨fun _ _ h => ⟨rfl, h⟩, fun _ cs _ lh hc => ⟨cs, lh, hc, rfl⟩⟩ (hs.slots j), fun j ob hj => RelO.st (w := w) (w' := w.drew) ⟨fun _ _ h => ⟨rfl, h⟩, fun _ cs _ lh hc => ⟨cs, lh, hc, rfl⟩⟩ (hs.objs j ob hj) (fun _ _ => rfl), hs.inj, hs.old, hs.sub, hs.frame, hs.wd, hs.outer, hs.pool⟩
theorem stab_mono {ok ok' : Nat → Prop} (h : ∀ b, ok b → ok' b) : Stab w w ok ok' := ⟨fun b _ hb => ⟨rfl, h b hb⟩, fun _ cs _ lh hc => ⟨cs, lh, hc, rfl⟩⟩
theorem okB_mono {L' : Ob} {β' : Nat → Option Nat} (h : ∀ b, ownB L' β' b → ownB L β b) : ∀ b, okB w0 ok0 L β b → okB w0 ok0 L' β' b := fun _ hb => ⟨fun ho => hb.1 (h _ ho), hb.2⟩
theorem look_kL_some {ds is : List Nat} {L : Ob} {i : Nat} {o : O} (h : look (kL ds is L) i = some o) : ∃ o', look L i = some o' ∧ hit ds is i = false ∧ o = kO ds is o' := by
 rw [look_kL] at h
 split at h
 ·cases h
 ·rename_i hh
  cases hl : look L i with
  | none => simp [hl] at h
  | some o' => simp [hl] at h; exact ⟨o', rfl, by simpa using hh, h.symm⟩
theorem Sim.kill (hs : Sim P n w0 ok0 own0 β f L p a w) (ds is : List Nat) : Sim P n w0 ok0 own0 β (kR ds is f) (kL ds is L) p a w := by
 have hown : ∀ b, ownB (kL ds is L) β b → ownB L β b := fun b ⟨i, o, h1, h2⟩ => by obtain ⟨o', h3, _⟩ := look_kL_some h1; exact ⟨i, o', h3, h2⟩
 have hst := stab_mono (w := w) (okB_mono (w0 := w0) (ok0 := ok0) hown)
 refine ⟨hs.size, hs.defers, fun i => (hs.slots i).tr (fun _ _ => rfl) hst, fun i o hl => ?_, fun i j o o' b hi hj => ?_, fun b hb => hs.old b (hown b hb), hs.sub, hs.frame, hs.wd, hs.outer, fun ps hps => ?_⟩
 ·obtain ⟨o', h1, h2, rfl⟩ := look_kL_some hl
  exact (hs.objs i o' h1).tr (fun _ _ => rfl) hst h2 fun _ _ => rfl
 ·obtain ⟨o1, h1, _⟩ := look_kL_some hi
  obtain ⟨o2, h2, _⟩ := look_kL_some hj
  exact hs.inj i j o1 o2 b h1 h2
 ·obtain ⟨h1, h2⟩ := hs.pool ps hps
  exact ⟨h1, fun b hb => ⟨(h2 b hb).1, (h2 b hb).2.1, fun ho => (h2 b hb).2.2 (hown b ho)⟩⟩
def SubO (A B : Ob) : Prop := ∀ p ∈ A, look B p.1 = some p.2
def PoSub (p q : Po) : Prop := ∀ qs, q = some qs → ∃ ps, p = some ps ∧ Sb qs.flatten ps.flatten
theorem look_memO : ∀ {A : Ob} {i : Nat} {o : O}, look A i = some o → (i, o) ∈ A
 | [], _, _, h => by simp [look] at h
 | (j, b) :: r, i, o, h => by
  simp only [look] at h
  split at h
  ·rename_i e; injection h with h; subst e h; simp
  ·exact List.mem_cons_of_mem _ (look_memO h)
theorem SubO.own {A B : Ob} (h : SubO A B) {b : Nat} : ownB A β b → ownB B β b := fun ⟨i, o, h1, h2⟩ => ⟨i, o, h (i, o) (look_memO h1), h2⟩
theorem Sim.drop (hs : Sim P n w0 ok0 own0 β f L p a w) {L' : Ob} {p' : Po} (hl : SubO L' L) (hp : PoSub p p') : Sim P n w0 ok0 own0 β f L' p' a w := by
 have hown : ∀ b, ownB L' β b → ownB L β b := fun b => hl.own
 have hst := stab_mono (w := w) (okB_mono (w0 := w0) (ok0 := ok0) hown)
 have hlk : ∀ i o, look L' i = some o → look L i = some o := fun i o h => hl (i, o) (look_memO h)
 refine ⟨hs.size, hs.defers, fun i => (hs.slots i).st hst, fun i o h => (hs.objs i o (hlk i o h)).st hst fun _ _ => rfl, fun i j o o' b hi hj => hs.inj i j o o' b (hlk i o hi) (hlk j o' hj), fun b hb => hs.old b (hown b hb), hs.sub, hs.frame, hs.wd, hs.outer, fun qs hqs => ?_⟩
 obtain ⟨ps, h1, h2⟩ := hp qs hqs
 obtain ⟨h3, h4⟩ := hs.pool ps h1
 exact ⟨h2.nodup h3, fun b hb => ⟨(h4 b (h2.mem hb)).1, (h4 b (h2.mem hb)).2.1, fun ho => (h4 b (h2.mem hb)).2.2 (hown b ho)⟩⟩
theorem Tr.drop {L' : Ob} (hl : SubO L' L) : Tr L β w L' β w := ⟨Nat.le_refl _, fun _ _ _ => rfl, fun _ _ h => hl.own h, fun _ cs _ lh hc => ⟨cs, lh, hc, rfl⟩⟩
theorem Sim.virt (hs : Sim P n w0 ok0 own0 β f L p a w) {j : Nat} {ty : TypeId} {F : Fp} :
 Sim P n w0 ok0 own0 (fun k => if k = j then none else β k) (kR [] [j] f) ((j, .arr ty 0 [] F) :: kL [] [j] L) p a w ∧ Tr L β w ((j, .arr ty 0 [] F) :: kL [] [j] L) (fun k => if k = j then none else β k) w := by
 have hk := hs.kill [] [j]
 have hβ : ∀ k, hit [] [j] k = false → (fun k => if k = j then none else β k) k = β k := fun k h => by
  have : ¬ k = j := fun e => by subst e; simp [hit, inN] at h
  simp [this]
 have hcase : ∀ i o, look ((j, O.arr ty 0 [] F) :: kL [] [j] L) i = some o → (i = j ∧ o = .arr ty 0 [] F) ∨ (i ≠ j ∧ ∃ o', look L i = some o' ∧ hit [] [j] i = false ∧ o = kO [] [j] o') := fun i o h => by
  simp only [look] at h
  split at h
  ·rename_i e; injection h with h; exact .inl ⟨e.symm, h.symm⟩
  ·rename_i e; exact .inr ⟨fun e' => e e'.symm, look_kL_some h⟩
 have hown : ∀ b, ownB ((j, O.arr ty 0 [] F) :: kL [] [j] L) (fun k => if k = j then none else β k) b → ownB L β b := by
  rintro b ⟨i, o, h1, h2⟩
  rcases hcase i o h1 with ⟨rfl, _⟩ | ⟨hne, o', h3, _⟩
  ·simp at h2
  ·exact ⟨i, o', h3, by simpa [hne] using h2⟩
 have hst := stab_mono (w := w) (okB_mono (w0 := w0) (ok0 := ok0) hown)
 refine ⟨⟨hs.size, hs.defers, fun i => (hs.slots i).tr hβ hst, fun i o hl => ?_, fun i k o o' b hi hj hbi hbj => ?_, fun b hb => hs.old b (hown b hb), hs.sub, hs.frame, hs.wd, hs.outer, fun ps hps => ?_⟩, ⟨Nat.le_refl _, fun _ _ _ => rfl, fun b _ h => hown b h, fun _ cs _ lh hc => ⟨cs, lh, hc, rfl⟩⟩⟩
 ·rcases hcase i o hl with ⟨rfl, rfl⟩ | ⟨_, o', h3, h4, rfl⟩
  ·exact .inl ⟨by simp, rfl, rfl⟩
  ·exact (hs.objs i o' h3).tr hβ hst h4 fun _ _ => rfl
 ·rcases hcase i o hi with ⟨rfl, _⟩ | ⟨h1, o1, h3, _⟩
  ·simp at hbi
  ·rcases hcase k o' hj with ⟨rfl, _⟩ | ⟨h2, o2, h4, _⟩
   ·simp at hbj
   ·exact hs.inj i k o1 o2 b h3 h4 (by simpa [h1] using hbi) (by simpa [h2] using hbj)
 ·obtain ⟨h1, h2⟩ := hs.pool ps hps
  exact ⟨h1, fun b hb => ⟨(h2 b hb).1, (h2 b hb).2.1, fun ho => (h2 b hb).2.2 (hown b ho)⟩⟩
section
variable {i j : Nat} {ok : Nat → Prop}
theorem ren_ptrs : ∀ {l : List Nat} {vs : List Value}, hitL [] [j] l = false → Ptrs β l vs → Ptrs (fun k => if k = j then β i else β k) (renN i j l) vs
 | [], [], _, _ => trivial
 | k :: r, v :: t, h, hp => by
  simp only [hitL, Bool.or_eq_false_iff] at h
  have hkj : ¬ k = j := fun e => by subst e; simp [hit, inN] at h
  refine ⟨?_, ren_ptrs h.2 hp.2⟩
  obtain ⟨b, h1, h2⟩ := hp.1
  by_cases e : k = i
  ·subst e; exact ⟨b, by simp [h1], h2⟩
  ·exact ⟨b, by simp [e, hkj, h1], h2⟩
 | [], _ :: _, _, h => h.elim
 | _ :: _, [], _, h => h.elim
theorem ren_rel {x : C} {y : Value} (h : RelC P w β ok x y) : RelC P w (fun k => if k = j then β i else β k) ok (renC i j (kC [] [j] x)) y := by
 cases x with
 | p k o =>
  simp only [kC]
  split
  ·trivial
  ·rename_i hh
   have hkj : ¬ k = j := fun e => by subst e; simp [hit, inN] at hh
   obtain ⟨b, h1, h2⟩ := h
   simp only [renC]
   split
   ·rename_i e; subst e; exact ⟨b, by simp [h1], h2⟩
   ·exact ⟨b, by simp [hkj, h1], h2⟩
 | s k m =>
  have h : OwnS P w (β k) m y := h
  simp only [kC]
  split
  ·trivial
  ·rename_i hh
   have hkj : ¬ k = j := fun e => by subst e; simp [hit, inN] at hh
   simp only [renC]
   split
   ·rename_i e; subst e
    show OwnS P w (if j = j then β k else β j) m y
    rw [if_pos rfl]; exact h
   ·show OwnS P w (if k = j then β i else β k) m y
    rw [if_neg hkj]; exact h
 | fn g a b =>
  simp only [kC]
  split
  ·trivial
  ·split
   ·trivial
   ·rename_i h1 h2
    obtain ⟨va, vb, h3, h4, h5⟩ := h
    exact ⟨va, vb, h3, ren_ptrs (by simpa using h1) h4, ren_ptrs (by simpa using h2) h5⟩
 | v x => exact h
 | sl m ds F => exact h
 | q ds => exact h
 | ow ty m ds F => exact h
 | dead => trivial
 | self => exact h
theorem renC_self {i j : Nat} {x : C} (h : renC i j x = C.self) : x = C.self := by
 cases x <;> simp only [renC] at h <;> first | rfl | cases h | (split at h <;> cases h)
theorem renCs_self {i j : Nat} : ∀ {cs : List C} {k : Nat}, (renCs i j cs)[k]? = some C.self → cs[k]? = some C.self
 | [], k, h => by simp [renCs] at h
 | y :: r, 0, h => by simp only [renCs, List.getElem?_cons_zero, Option.some.injEq] at h ⊢; exact renC_self h
 | y :: r, k + 1, h => by simp only [renCs, List.getElem?_cons_succ] at h ⊢; exact renCs_self h
theorem ren_relL : ∀ {x : List C} {y : List Value}, RelL P w β ok x y → RelL P w (fun k => if k = j then β i else β k) ok (renCs i j (kCs [] [j] x)) y
 | [], [], _ => trivial
 | _ :: _, _ :: _, h => ⟨ren_rel h.1, ren_relL h.2⟩
 | [], _ :: _, h => h.elim
 | _ :: _, [], h => h.elim
theorem ren_relT : ∀ {x : List (List C × Bool)} {y : List Value}, RelT P w β ok x y → RelT P w (fun k => if k = j then β i else β k) ok (renTs i j (kTs [] [j] x)) y
 | [], [], _ => trivial
 | (cs, b) :: _, _ :: _, h => ⟨by
  obtain ⟨h1, _⟩ := h
  simp only [RelT1] at h1 ⊢
  cases b with
  | true => exact ren_relL (by simpa using h1)
  | false =>
   simp only [Bool.false_eq_true, if_false] at h1 ⊢
   obtain ⟨vs, h2, h3⟩ := h1
   exact ⟨vs, h2, ren_relL h3⟩, ren_relT h.2⟩
 | [], _ :: _, h => h.elim
 | _ :: _, [], h => h.elim
theorem ren_relS {x : S} {y : Value} (h : RelS P w β ok x y) : RelS P w (fun k => if k = j then β i else β k) ok (renS i j (kS [] [j] x)) y := by
 cases x with
 | c x => exact ren_rel h
 | ag cs => obtain ⟨vs, h1, h2⟩ := h; exact ⟨vs, h1, ren_relL h2⟩
 | tu xs => obtain ⟨vs, h1, h2⟩ := h; exact ⟨vs, h1, ren_relT h2⟩
end
theorem look_renL {i j : Nat} : ∀ {L : Ob} {k : Nat} {o : O}, look (renL i j (kL [] [j] L)) k = some o → ∃ k' o', look L k' = some o' ∧ k' ≠ j ∧ k = (if k' = i then j else k') ∧ o = renO i j (kO [] [j] o')
 | [], _, _, h => by simp [kL, renL, look] at h
 | (q, b) :: r, k, o, h => by
  simp only [kL] at h
  have next : look (renL i j (kL [] [j] r)) k = some o → (∀ k', k = (if k' = i then j else k') → k' ≠ j → k' ≠ q) → ∃ k' o', look ((q, b) :: r) k' = some o' ∧ k' ≠ j ∧ k = (if k' = i then j else k') ∧ o = renO i j (kO [] [j] o') := by
   intro h hq
   obtain ⟨k', o', h1, h2, h3, h4⟩ := look_renL h
   refine ⟨k', o', ?_, h2, h3, h4⟩
   simp only [look]; rw [if_neg fun e => hq k' h3 h2 e.symm]; exact h1
  split at h
  ·rename_i hh
   have hqj : q = j := by simp [hit, inN] at hh; exact hh.symm
   exact next h fun k' _ hj e => hj (e.trans hqj)
  ·rename_i hh
   have hqj : q ≠ j := fun e => by subst e; simp [hit, inN] at hh
   simp only [renL, look] at h
   by_cases e : (if q = i then j else q) = k
   ·rw [if_pos e] at h
    injection h with h
    exact ⟨q, b, by simp [look], hqj, e.symm, h.symm⟩
   ·rw [if_neg e] at h
    refine next h fun k' hk hj e' => e ?_
    subst e'; exact hk.symm
theorem Sim.ren (hs : Sim P n w0 ok0 own0 β f L p a w) {i j : Nat} (hij : i ≠ j) :
 Sim P n w0 ok0 own0 (fun k => if k = j then β i else β k) (renR i j (kR [] [j] f)) (renL i j (kL [] [j] L)) p a w ∧ Tr L β w (renL i j (kL [] [j] L)) (fun k => if k = j then β i else β k) w := by
 have hβ : ∀ k', k' ≠ j → (fun k => if k = j then β i else β k) (if k' = i then j else k') = β k' := fun k' hk => by
  by_cases e : k' = i
  ·subst e; simp
  ·simp [e, hk]
 have hown : ∀ b, ownB (renL i j (kL [] [j] L)) (fun k => if k = j then β i else β k) b → ownB L β b := by
  rintro b ⟨k, o, h1, h2⟩
  obtain ⟨k', o', h3, h4, rfl, _⟩ := look_renL h1
  exact ⟨k', o', h3, by rw [← hβ k' h4]; exact h2⟩
 have hst := stab_mono (w := w) (okB_mono (w0 := w0) (ok0 := ok0) hown)
 refine ⟨⟨hs.size, hs.defers, fun k => ren_relS ((hs.slots k).st hst), fun k o hl => ?_, fun k k' o o' b hk hk' hb hb' => ?_, fun b hb => hs.old b (hown b hb), hs.sub, hs.frame, hs.wd, hs.outer, fun ps hps => ?_⟩, ⟨Nat.le_refl _, fun _ _ _ => rfl, fun b _ h => hown b h, fun _ cs _ lh hc => ⟨cs, lh, hc, rfl⟩⟩⟩
 ·obtain ⟨k', o', h3, h4, rfl, rfl⟩ := look_renL hl
  have hr := (hs.objs k' o' h3).st hst fun _ _ => rfl
  cases o' with
  | str cs => obtain ⟨b, vs, ty, lh, q1, q2, hlh, hsf, q3⟩ := hr; exact ⟨b, vs, ty, lh, (hβ k' h4).trans q1, q2, hlh, hsf.kCs.map fun k => renCs_self, ren_relL q3⟩
  | arr ty m ds F =>
   rcases hr with ⟨q1, q2⟩ | ⟨b, vs, hd, junk, G, lh, q1, q2⟩
   ·exact .inl ⟨(hβ k' h4).trans q1, q2⟩
   ·exact .inr ⟨b, vs, hd, junk, G, lh, (hβ k' h4).trans q1, q2⟩
 ·obtain ⟨k1, o1, h3, h4, rfl, _⟩ := look_renL hk
  obtain ⟨k2, o2, h5, h6, rfl, _⟩ := look_renL hk'
  have := hs.inj k1 k2 o1 o2 b h3 h5 (by rw [← hβ k1 h4]; exact hb) (by rw [← hβ k2 h6]; exact hb')
  rw [this]
 ·obtain ⟨h1, h2⟩ := hs.pool ps hps
  exact ⟨h1, fun b hb => ⟨(h2 b hb).1, (h2 b hb).2.1, fun ho => (h2 b hb).2.2 (hown b ho)⟩⟩
theorem Sim.reobj (hs : Sim P n w0 ok0 own0 β f L p a w) {i : Nat} {ob ob' : O} (hl : look L i = some ob) (hr : RelO P w β (okB w0 ok0 L β) i ob') : Sim P n w0 ok0 own0 β f (setL L i ob') p a w ∧ Tr L β w (setL L i ob') β w := by
 have hown : ∀ b, ownB (setL L i ob') β b → ownB L β b := fun b => (ownB_setL hl b).1
 have hst := stab_mono (w := w) (okB_mono (w0 := w0) (ok0 := ok0) hown)
 refine ⟨⟨hs.size, hs.defers, fun k => (hs.slots k).st hst, fun k o h => ?_, fun j j' o o' x hj hj' hx hx' => ?_, fun b hb => hs.old b (hown b hb), hs.sub, hs.frame, hs.wd, hs.outer, fun ps hps => ?_⟩, ⟨Nat.le_refl _, fun _ _ _ => rfl, fun b _ h => hown b h, fun _ cs _ lh hc => ⟨cs, lh, hc, rfl⟩⟩⟩
 ·rw [look_setL] at h
  split at h
  ·rename_i e; subst e; injection h with h; subst h; exact hr.st hst fun _ _ => rfl
  ·exact (hs.objs k o h).st hst fun _ _ => rfl
 ·have aux : ∀ j o, look (setL L i ob') j = some o → ∃ o', look L j = some o' := by
   intro j o hj
   rw [look_setL] at hj
   split at hj
   ·rename_i e; subst e; exact ⟨ob, hl⟩
   ·exact ⟨o, hj⟩
  obtain ⟨o1, h1⟩ := aux j o hj
  obtain ⟨o2, h2⟩ := aux j' o' hj'
  exact hs.inj j j' o1 o2 x h1 h2 hx hx'
 ·obtain ⟨h1, h2⟩ := hs.pool ps hps
  exact ⟨h1, fun b hb => ⟨(h2 b hb).1, (h2 b hb).2.1, fun ho => (h2 b hb).2.2 (hown b ho)⟩⟩
theorem RelL.set {ok : Nat → Prop} : ∀ {cs : List C} {vs : List Value} {off : Nat} {x y : C}, RelL P w β ok cs vs → cs[off]? = some x → (∀ v, RelC P w β ok x v → RelC P w β ok y v) → RelL P w β ok (cs.set off y) vs
 | [], _, _, _, _, _, h, _ => by simp at h
 | _ :: _, [], _, _, _, h, _, _ => h.elim
 | c :: r, v :: t, 0, x, y, h, hx, hy => by simp at hx; subst hx; exact ⟨hy v h.1, h.2⟩
 | c :: r, v :: t, off + 1, x, y, h, hx, hy => ⟨h.1, RelL.set h.2 (by simpa using hx) hy⟩
theorem ghs_sound {ws : List Nat} {k : Rg → Ob → Prop} : ∀ (gs : List Gh) {β : Nat → Option Nat} {f : Rg} {L : Ob}, Sim P n w0 ok0 own0 β f L p a w → ghs ws gs k f L →
 ∃ β' f' L', Sim P n w0 ok0 own0 β' f' L' p a w ∧ (∀ i, fam i ∉ ws → β' i = β i) ∧ Tr L β w L' β' w ∧ k f' L'
 | [], β, f, L, hs, h => ⟨β, f, L, hs, fun _ _ => rfl, Tr.refl _ _ _, h⟩
 | .ren i j :: r, β, f, L, hs, ⟨h1, h2, h3⟩ => by
  obtain ⟨hs', ht⟩ := hs.ren h1
  obtain ⟨β', f', L', q1, q2, q3, q4⟩ := ghs_sound r hs' h3
  refine ⟨β', f', L', q1, fun m hm => (q2 m hm).trans ?_, ht.trans q3, q4⟩
  have : ¬ m = j := fun e => hm (by rw [e]; exact inN_iff.1 h2)
  simp [this]
 | .virt s j ty :: r, β, f, L, hs, ⟨h1, h2, h3⟩ => by
  obtain ⟨hs', ht⟩ := hs.virt (j := j) (ty := ty) (F := some [])
  have hsl := hs'.slots s
  have hv : RelS P w (fun k => if k = j then none else β k) (okB w0 ok0 ((j, .arr ty 0 [] (some [])) :: kL [] [j] L) (fun k => if k = j then none else β k)) (.c (.s j 0)) (a.tmps.getD s undef) := by
   have e : kR [] [j] f s = kS [] [j] (f s) := rfl
   rw [e] at hsl
   split at h1
   ·rename_i he
    rw [he] at hsl
    show OwnS P w (if j = j then none else β j) 0 _
    rw [if_pos rfl]; exact ⟨rfl, hsl.1⟩
   ·exact h1.elim
  obtain ⟨β', f', L', q1, q2, q3, q4⟩ := ghs_sound r (hs'.refine_slot hv) h3
  refine ⟨β', f', L', q1, fun m hm => (q2 m hm).trans ?_, ht.trans q3, q4⟩
  have : ¬ m = j := fun e => hm (by rw [e]; exact inN_iff.1 h2)
  simp [this]
 | .virtC i off j ty :: r, β, f, L, hs, ⟨h2, h3⟩ => by
  obtain ⟨hs', ht⟩ := hs.virt (j := j) (ty := ty) (F := some [])
  split at h3
  case h_2 => exact h3.elim
  rename_i cs hl
  split at h3
  case h_2 => exact h3.elim
  rename_i hcs
  have hro := hs'.objs i _ hl
  obtain ⟨b, vs, ty', lh, e1, e2, hlh, hsf, e3⟩ := hro
  obtain ⟨hs'', ht'⟩ := hs'.reobj (ob' := .str (cs.set off (.s j 0))) hl ⟨b, vs, ty', lh, e1, e2, hlh, hsf.map fun k hk => (by
   rw [List.getElem?_set] at hk
   split at hk
   ·split at hk <;> cases hk
   ·exact hk), e3.set hcs fun v hv => by
   show OwnS P w (if j = j then none else β j) 0 _
   rw [if_pos rfl]; exact ⟨rfl, hv.1⟩⟩
  obtain ⟨β', f', L', q1, q2, q3, q4⟩ := ghs_sound r hs'' h3
  refine ⟨β', f', L', q1, fun m hm => (q2 m hm).trans ?_, (ht.trans ht').trans q3, q4⟩
  have : ¬ m = j := fun e => hm (by rw [e]; exact inN_iff.1 h2)
  simp [this]
end
end Go.Dv
namespace Go.Dv
open Go Go.RowKit
open Go.Vc (vis vis_of_cell CellF RowF ValsF D inN okV callable wp_value Stay guardSlot Plan desc inX wpAny_of_B closed_start dstsOps dsts wp_loop_nat tyS)
variable [Out]
def mixR (ws : List Nat) (f g : Rg) : Rg := fun i => if inN ws i = true then g i else kS ws [] (f i)
def dLoop (ws : List Nat) (body : KE → K0) (K : KE) : K0 := fun f0 L0 p0 =>
 ∃ gs : List Gh, ghs ws gs (fun f L => ∃ (L1 : Ob) (p1 : Po) (I : Rg → Ob → Po → Prop) (μ : Rg → Ob → Po → Nat), SubO L1 L ∧ PoSub p0 p1 ∧ I (mixR ws f f) L1 p1 ∧
  ((∀ g L2 p2, I (mixR ws f g) L2 p2 → body (fun e f' L' p' => match e with
    | .normal => ∃ L3 p3, SubO L3 L' ∧ PoSub p' p3 ∧ I (mixR ws f f') L3 p3 ∧ μ (mixR ws f f') L3 p3 < μ (mixR ws f g) L2 p2
    | e => K e f' L' p') (mixR ws f g) L2 p2) ∨
   (∀ g L2 p2, I (mixR ws f g) L2 p2 → body (fun e f' L' p' => match e with
    | .normal => ∃ hs : List Gh, ghs ws hs (fun f' L' => ∃ L3 p3, SubO L3 L' ∧ PoSub p' p3 ∧ I (mixR ws f f') L3 p3 ∧ μ (mixR ws f f') L3 p3 < μ (mixR ws f g) L2 p2) f' L'
    | e => K e f' L' p') (mixR ws f g) L2 p2))) f0 L0
def d (P : Program) (n : Nat) : Code → KE → K0
 | .skip, K => K .normal
 | .label _, K => K .normal
 | .region _ ops false, K => dl P n ops (K .normal) ops.toList
 | .region _ ops true, K => dDrawn P n ops (K .normal)
 | .seq a b, K => d P n a fun e => match e with | .normal => d P n b K | e => K e
 | .cond c a b, K => fun f L p => match ev f c with
  | .c (.v (.bool t)) => (t = true → d P n a K f L p) ∧ (t = false → d P n b K f L p)
  | _ => False
 | .block id c, K => d P n c fun e => match e with
  | .exit id' => if id' = id then K .normal else K (.exit id')
  | e => K e
 | .loop c, K => dLoop (dsts c) (d P n c) K
 | .exit id, K => K (.exit id)
 | .ret, K => K .ret
 | _, _ => fun _ _ _ => False
def okCode : Code → Bool
 | .region _ ops _ => okAll ops
 | .seq a b => okCode a && okCode b
 | .cond c a b => okOpd c && okCode a && okCode b
 | .block _ c => okCode c
 | .loop c => okCode c
 | _ => true
section
variable {P : Program} {n : Nat} {w0 : World} {ok0 own0 : Nat → Prop} {β : Nat → Option Nat} {f : Rg} {L : Ob} {p : Po} {a : Act} {w : World}
 {K : K0} {Q : Exit → Act → World → Prop} {ops : Array Oper} {xs : List Nat}
theorem dDrawn_sound {id : Nat} (hm : P.follows .mixedOrders = true) (hn : n ≤ 9000) (hok : okAll ops = true) (hs : Sim P n w0 ok0 own0 β f L p a w) (h : dDrawn P n ops K f L p)
 (hK : Abs P n w0 ok0 own0 β L a w (dstsOps ops.toList) K (Q .normal)) : (Code.region id ops true).wp P Q a w := by
 obtain ⟨hsel, xs, r, hp, h⟩ := h
 have hb := (dPlan_sound (P := P) (n := n) (w0 := w0) (ok0 := ok0) (own0 := own0) (K := K) (xs := xs) (Q := fun e a w => e = .normal ∧ Q .normal a w) hn hok hsel (fun c a w hq => by cases hq.1) r).1 ops.size (Array.replicate ops.size false) hp closed_start hs.drew h
  (fun β' f' L' p' a' w' hs' hk' ht' h' => ⟨rfl, hK _ _ _ _ _ _ hs' hk' ⟨ht'.size, ht'.keep, ht'.own, ht'.cells⟩ h'⟩)
 have hr := wp_region_any (id := id) hm (wpAny_of_B _ _ _ _ hb)
 exact Code.wp_mono (fun e a w h => by obtain ⟨rfl, h⟩ := h; exact h) hr
theorem Sim.mix {ws : List Nat} {β' : Nat → Option Nat} {g : Rg} {L' : Ob} {p' : Po} {a' : Act} {w' : World} (h0 : Sim P n w0 ok0 own0 β f L p a w) (h : Sim P n w0 ok0 own0 β' g L' p' a' w')
 (hk : Keep ws β a β' a') (ht : Tr L β w L' β' w') : Sim P n w0 ok0 own0 β' (mixR ws f g) L' p' a' w' := by
 refine ⟨h.size, h.defers, fun i => ?_, h.objs, h.inj, h.old, h.sub, h.frame, h.wd, h.outer, h.pool⟩
 simp only [mixR]
 split
 ·exact h.slots i
 ·rename_i hi
  have hi : i ∉ ws := fun e => hi (inN_iff.2 e)
  rw [hk.tmps i hi]
  refine (h0.slots i).tr (fun k hk' => hk.beta k fun e => ?_) ⟨fun b hv hb => ⟨ht.keep b (vis_lt hv) hb.1, fun ho => hb.1 (ht.own b (vis_lt hv) ho), hb.2⟩, ht.cells⟩
  simp [hit, inN_iff.2 e] at hk'
theorem d_sound (hm : P.follows .mixedOrders = true) (hn : n ≤ 9000) : ∀ (c : Code) {K : KE} {Q : Exit → Act → World → Prop} {β : Nat → Option Nat} {f : Rg} {L : Ob} {p : Po} {a : Act} {w : World}, okCode c = true →
 Sim P n w0 ok0 own0 β f L p a w → d P n c K f L p →
 (∀ e β' f' L' p' a' w', Sim P n w0 ok0 own0 β' f' L' p' a' w' → Keep (dsts c) β a β' a' → Tr L β w L' β' w' → K e f' L' p' → Q e a' w') → c.wp P Q a w
 | .skip, K, Q, β, f, L, p, a, w, _, hs, h, hK => wp_skip (hK _ _ _ _ _ _ _ hs (Keep.refl _ _ _) (Tr.refl _ _ _) h)
 | .label l, K, Q, β, f, L, p, a, w, _, hs, h, hK => wp_label (hK _ _ _ _ _ _ _ hs (Keep.refl _ _ _) (Tr.refl _ _ _) h)
 | .exit id, K, Q, β, f, L, p, a, w, _, hs, h, hK => wp_exit (hK _ _ _ _ _ _ _ hs (Keep.refl _ _ _) (Tr.refl _ _ _) h)
 | .ret, K, Q, β, f, L, p, a, w, _, hs, h, hK => wp_ret (hK _ _ _ _ _ _ _ hs (Keep.refl _ _ _) (Tr.refl _ _ _) h)
 | .region id ops false, K, Q, β, f, L, p, a, w, hok, hs, h, hK => wp_region_list (dl_sound hn ops.toList hok hs h fun _ _ _ _ _ _ hs' hk ht h' => hK _ _ _ _ _ _ _ hs' hk ht h')
 | .region id ops true, K, Q, β, f, L, p, a, w, hok, hs, h, hK => dDrawn_sound hm hn hok hs h fun _ _ _ _ _ _ hs' hk ht h' => hK _ _ _ _ _ _ _ hs' hk ht h'
 | .seq x y, K, Q, β, f, L, p, a, w, hok, hs, h, hK => by
  simp only [okCode, Bool.and_eq_true] at hok
  refine wp_seq (d_sound hm hn x hok.1 hs h fun e β' f' L' p' a' w' hs' hk ht h' => ?_)
  have hk' : Keep (dsts (.seq x y)) β a β' a' := hk.mono fun j hj => by simp [dsts, hj]
  cases e with
  | normal => exact d_sound hm hn y hok.2 hs' h' fun e β'' f'' L'' p'' a'' w'' hs'' hk'' ht'' h'' => hK _ _ _ _ _ _ _ hs'' (hk.trans hk'') (ht.trans ht'') h''
  | exit id => exact hK _ _ _ _ _ _ _ hs' hk' ht h'
  | goto l => exact hK _ _ _ _ _ _ _ hs' hk' ht h'
  | ret => exact hK _ _ _ _ _ _ _ hs' hk' ht h'
  | panic ch => exact hK _ _ _ _ _ _ _ hs' hk' ht h'
  | outgrown => exact hK _ _ _ _ _ _ _ hs' hk' ht h'
 | .cond c x y, K, Q, β, f, L, p, a, w, hok, hs, h, hK => by
  simp only [okCode, Bool.and_eq_true] at hok
  have hc := ev_rel hs hok.1.1
  simp only [d] at h
  split at h
  ·rename_i t hev
   rw [hev] at hc
   have hc : a.eval c = .bool t := hc.1
   refine wp_cond_split hc (fun ht => ?_) (fun ht => ?_)
   ·exact d_sound hm hn x hok.1.2 hs (h.1 ht) fun e β'' f'' L'' p'' a'' w'' hs'' hk'' ht'' h'' => hK _ _ _ _ _ _ _ hs'' (hk''.mono fun j hj => by simp [dsts, hj]) ht'' h''
   ·exact d_sound hm hn y hok.2 hs (h.2 ht) fun e β'' f'' L'' p'' a'' w'' hs'' hk'' ht'' h'' => hK _ _ _ _ _ _ _ hs'' (hk''.mono fun j hj => by simp [dsts, hj]) ht'' h''
  ·exact h.elim
 | .block id c, K, Q, β, f, L, p, a, w, hok, hs, h, hK => by
  refine wp_block (d_sound hm hn c hok hs h fun e β' f' L' p' a' w' hs' hk ht h' => ?_)
  have hk' : Keep (dsts (.block id c)) β a β' a' := hk
  cases e with
  | exit id' =>
   simp only [Exit.inBlock]
   by_cases hid : id' = id
   ·simp only [hid, if_true] at h' ⊢; exact hK _ _ _ _ _ _ _ hs' hk' ht h'
   ·simp only [hid, if_false] at h' ⊢; exact hK _ _ _ _ _ _ _ hs' hk' ht h'
  | normal => exact hK _ _ _ _ _ _ _ hs' hk' ht h'
  | goto l => exact hK _ _ _ _ _ _ _ hs' hk' ht h'
  | ret => exact hK _ _ _ _ _ _ _ hs' hk' ht h'
  | panic ch => exact hK _ _ _ _ _ _ _ hs' hk' ht h'
  | outgrown => exact hK _ _ _ _ _ _ _ hs' hk' ht h'
 | .loop c, K, Q, β₀, f₀, L₀, p₀, a, w, hok, hs₀, h, hK => by
  obtain ⟨gs, h⟩ := h
  obtain ⟨β, f, L, hs, hβ0, ht0, L1, p1, I, μ, hsub, hpo, hI, hround⟩ := ghs_sound gs hs₀ h
  have hs1 := hs.drop hsub hpo
  have hk0 : Keep (dsts c) β₀ a β a := ⟨fun j hj => hβ0 j hj, fun _ _ => rfl⟩
  have ht1 : Tr L₀ β₀ w L1 β w := ht0.trans (Tr.drop hsub)
  refine wp_loop_nat (P := P) (k₀ := μ (mixR (dsts c) f f) L1 p1)
   (fun k a' w' => ∃ β' g L2 p2, Sim P n w0 ok0 own0 β' (mixR (dsts c) f g) L2 p2 a' w' ∧ Keep (dsts c) β a β' a' ∧ Tr L1 β w L2 β' w' ∧ I (mixR (dsts c) f g) L2 p2 ∧ k = μ (mixR (dsts c) f g) L2 p2) ?_ ?_
  ·rintro k a' w' ⟨β', g, L2, p2, hs2, hk1, ht2, hI2, rfl⟩
   rcases hround with hround | hround
   ·refine d_sound hm hn c hok hs2 (hround g L2 p2 hI2) fun e β'' f'' L'' p'' a'' w'' hs'' hk'' ht'' h'' => ?_
    have hk2 : Keep (dsts c) β a β'' a'' := (hk1.trans hk'').mono fun j hj => by simpa using hj
    have hk3 : Keep (dsts (.loop c)) β₀ a β'' a'' := (hk0.trans hk2).mono fun j hj => by simpa [dsts] using hj
    have ht3 := ht2.trans ht''
    have ht4 := ht1.trans ht3
    cases e with
    | normal =>
     obtain ⟨L3, p3, hsub3, hpo3, hI3, hlt⟩ := h''
     have hmix := hs1.mix hs'' hk2 ht3
     exact ⟨_, hlt, β'', f'', L3, p3, hmix.drop hsub3 hpo3, hk2, ht3.trans (Tr.drop hsub3), hI3, rfl⟩
    | exit id => exact hK _ _ _ _ _ _ _ hs'' hk3 ht4 h''
    | goto l => exact hK _ _ _ _ _ _ _ hs'' hk3 ht4 h''
    | ret => exact hK _ _ _ _ _ _ _ hs'' hk3 ht4 h''
    | panic ch => exact hK _ _ _ _ _ _ _ hs'' hk3 ht4 h''
    | outgrown => exact hK _ _ _ _ _ _ _ hs'' hk3 ht4 h''
   ·refine d_sound hm hn c hok hs2 (hround g L2 p2 hI2) fun e β'' f'' L'' p'' a'' w'' hs'' hk'' ht'' h'' => ?_
    have hk2 : Keep (dsts c) β a β'' a'' := (hk1.trans hk'').mono fun j hj => by simpa using hj
    have hk3 : Keep (dsts (.loop c)) β₀ a β'' a'' := (hk0.trans hk2).mono fun j hj => by simpa [dsts] using hj
    have ht3 := ht2.trans ht''
    have ht4 := ht1.trans ht3
    cases e with
    | normal =>
     obtain ⟨gs', h''⟩ := h''
     obtain ⟨β3, f3, L4, hs4, hβ4, ht5, L3, p3, hsub3, hpo3, hI3, hlt⟩ := ghs_sound gs' hs'' h''
     have hk4 : Keep (dsts c) β a β3 a'' := ⟨fun j hj => (hβ4 j hj).trans (hk2.beta j hj), hk2.tmps⟩
     have ht6 := ht3.trans ht5
     have hmix := hs1.mix hs4 hk4 ht6
     exact ⟨_, hlt, β3, f3, L3, p3, hmix.drop hsub3 hpo3, hk4, ht6.trans (Tr.drop hsub3), hI3, rfl⟩
    | exit id => exact hK _ _ _ _ _ _ _ hs'' hk3 ht4 h''
    | goto l => exact hK _ _ _ _ _ _ _ hs'' hk3 ht4 h''
    | ret => exact hK _ _ _ _ _ _ _ hs'' hk3 ht4 h''
    | panic ch => exact hK _ _ _ _ _ _ _ hs'' hk3 ht4 h''
    | outgrown => exact hK _ _ _ _ _ _ _ hs'' hk3 ht4 h''
  ·exact ⟨β, f, L1, p1, hs1.mix hs1 (Keep.refl _ _ _) (Tr.refl _ _ _), Keep.refl _ _ _, Tr.refl _ _ _, hI, rfl⟩
 | .rangeFunc _ _ _ _, K, Q, β, f, L, p, a, w, _, hs, h, hK => h.elim
 | .scope _, K, Q, β, f, L, p, a, w, _, hs, h, hK => h.elim
 | .goto _, K, Q, β, f, L, p, a, w, _, hs, h, hK => h.elim
 | .refuse _, K, Q, β, f, L, p, a, w, _, hs, h, hK => h.elim
end
end Go.Dv
namespace Go.Dv
open Go Go.RowKit
open Go.Vc (vis vis_of_cell CellF RowF ValsF D inN okV callable wp_value Stay dsts tyS TS resV results_run wrapRes add_lit0 run_loadVar_one run_loadVar_agg)
variable [Out]
def resS (P : Program) (L : Ob) (f : Rg) : ResultVar → Option S
 | .tmp t => some (f t)
 | .cell p ty => match f p with
  | .c (.p i 0) => (match look L i with
   | some (.str cs) => mkS (tyS P ty) cs
   | _ => none)
  | _ => none
def resAll (P : Program) (L : Ob) (f : Rg) : List ResultVar → Option (List S)
 | [] => some []
 | r :: rs => match resS P L f r with
  | some s => (match resAll P L f rs with | some ss => some (s :: ss) | none => none)
  | none => none
def ownsS : List S → Option Nat
 | [] => none
 | .ag cs :: r => (match ownsC cs with | some i => some i | none => ownsS r)
 | _ :: r => ownsS r
def outS : Nat → List S → (List S → K0) → K0
 | 0, _, _ => fun _ _ _ => False
 | fuel + 1, ss, k => match ownsS ss with
  | none => k ss
  | some i => frz i fun m x => outS fuel (fSs i m x ss) k
def wrapS : List S → Option S
 | [s] => some s
 | ss => (compsS ss).map .tu
 where
 compsS : List S → Option (List (List C × Bool))
 | [] => some []
 | .c x :: r => (match compsS r with | some q => some (([x], true) :: q) | none => none)
 | .ag cs :: r => (match compsS r with | some q => some ((cs, false) :: q) | none => none)
 | .tu _ :: _ => none
def idp : Nat → Nat → List (Nat × Nat)
 | _, 0 => []
 | k, m + 1 => (9000 + k, 9000 + k) :: idp (k + 1) m
def leT (ρ : List (Nat × Nat)) (L : Ob) : List (List C × Bool) → List (List C × Bool) → Prop
 | [], [] => True
 | (a, t) :: r, (b, u) :: s => t = u ∧ leL ρ L a b ∧ leT ρ L r s
 | _, _ => False
def leR (ρ : List (Nat × Nat)) (L : Ob) : S → S → Prop
 | .c x, .c y => leC ρ L x y
 | .ag a, .ag b => leL ρ L a b
 | .tu a, .tu b => leT ρ L a b
 | _, _ => False
def rhoT : List (List C × Bool) → List (List C × Bool) → List (Nat × Nat)
 | (a, _) :: r, (b, _) :: s => rhoL a b ++ rhoT r s
 | _, _ => []
def rhoR : S → S → List (Nat × Nat)
 | .c x, .c y => rhoC x y
 | .ag a, .ag b => rhoL a b
 | .tu a, .tu b => rhoT a b
 | _, _ => []
def rhoE (L : Ob) (s r : S) (nobj : Nat) (objs : List (List C)) : List (Nat × Nat) := rhoB L (idp 0 nobj ++ rhoR s (expS 9700 r)) (back r objs)
def brwT : List (List C × Bool) → List (List C × Bool) → List Nat
 | (a, _) :: r, (b, _) :: s => brwL a b ++ brwT r s
 | _, _ => []
def brwR : S → S → List Nat
 | .c x, .c y => brwC x y
 | .ag a, .ag b => brwL a b
 | .tu a, .tu b => brwT a b
 | _, _ => []
def brwE (L : Ob) (ρ : List (Nat × Nat)) (s r : S) (objs : List (List C)) : List Nat := brwR s (expS 9700 r) ++ brwB L ρ (back r objs)
def inPool (p : Po) (F : List (List Nat)) : Prop := match p with
 | none => F = []
 | some ps => Sb F.flatten ps.flatten
structure EndOk (L : Ob) (p : Po) (s r : S) (nobj : Nat) (objs : List (List C)) : Prop where
 len : objs.length = nobj
 flat : flat r objs = true
 res : leR (rhoE L s r nobj objs) L s (expS 9700 r)
 obj : leB (rhoE L s r nobj objs) L (back r objs)
 once : nodupB ((rhoE L s r nobj objs).map (·.2)) = true
 disj : disjB (brwE L (rhoE L s r nobj objs) s r objs) ((rhoE L s r nobj objs).map (·.2)) = true
 pool : inPool p (fps r objs)
def dRet (P : Program) (rs : List ResultVar) (nobj : Nat) (R : S → List (List C) → Prop) : K0 := fun f L p =>
 match resAll P L f rs with
 | some ss => outS 12 ss (fun ss _ L p => match wrapS ss with
  | some s => ∃ r objs, R r objs ∧ EndOk L p s r nobj objs
  | none => False) f L p
 | none => False
def endK (P : Program) (rs : List ResultVar) (nobj : Nat) (R : S → List (List C) → Prop) : KE
 | .normal | .ret => dRet P rs nobj R
 | _ => fun _ _ _ => False
def dRetN (P : Program) (rs : List ResultVar) (R : List C → Prop) : K0 := fun f L p =>
 match resAll P L f rs with
 | some [.c (.p i 0)] => ∃ cs, look L i = some (.str cs) ∧ plainL cs = true ∧ R cs
 | _ => False
def endKN (P : Program) (rs : List ResultVar) (R : List C → Prop) : KE
 | .normal | .ret => dRetN P rs R
 | _ => fun _ _ _ => False
def ownsM : List S → Option Nat
 | [] => none
 | .ag cs :: r => (match ownsC cs with | some i => some i | none => ownsM r)
 | .c (.s i _) :: _ => some i
 | _ :: r => ownsM r
def outM : Nat → List S → (List S → K0) → K0
 | 0, _, _ => fun _ _ _ => False
 | fuel + 1, ss, k => match ownsM ss with
  | none => k ss
  | some i => frz i fun m x => outM fuel (fSs i m x ss) k
def dRetM (P : Program) (rs : List ResultVar) (R : List C → List C × Bool → Prop) : K0 := fun f L p =>
 match resAll P L f rs with
 | some ss => outM 12 ss (fun ss _ L _ => match ss with
  | [.c (.p i 0), y] => (match wrapS.compsS [y] with
   | some [x] => ∃ cs, look L i = some (.str cs) ∧ plainL cs = true ∧ plainL x.1 = true ∧ R cs x
   | _ => False)
  | _ => False) f L p
 | none => False
def endKM (P : Program) (rs : List ResultVar) (R : List C → List C × Bool → Prop) : KE
 | .normal | .ret => dRetM P rs R
 | _ => fun _ _ _ => False
def regs0 : List S → Rg
 | [] => fun _ => .tu []
 | v :: vs => fun i => match i with | 0 => v | i + 1 => regs0 vs i
section
variable {P : Program} {n : Nat} {w0 : World} {ok0 own0 : Nat → Prop} {β : Nat → Option Nat} {f : Rg} {L : Ob} {p : Po} {a : Act} {w : World}
theorem resS_sound (hs : Sim P n w0 ok0 own0 β f L p a w) {r : ResultVar} {s : S} (h : resS P L f r = some s) :
 ∃ v, (resV a.tmps r).run P w = .ok v w ∧ RelS P w β (okB w0 ok0 L β) s v := by
 cases r with
 | tmp t => simp only [resS, Option.some.injEq] at h; subst h; exact ⟨_, rfl, hs.slots t⟩
 | cell q ty =>
  simp only [resS] at h
  have hp := hs.slots q
  split at h
  case h_2 => cases h
  rename_i i hev
  rw [hev] at hp
  obtain ⟨b, hb, hp⟩ := hp
  split at h
  case h_2 => cases h
  rename_i cs hl
  obtain ⟨b', vs, ty', lh, h1, h2, hlh, _, h3⟩ := hs.objs i _ hl
  rw [hb] at h1; injection h1 with h1; subst h1
  have hcell : ∀ j, w.cell? ⟨b, j, none⟩ = vs.toList[j]? := fun j => by rw [cell_of_row w b j vs _ _ h2]; simp
  rcases mkS_rel h h3 with ⟨ht, v, hv, hr⟩ | ⟨k, ht, hk, hr⟩
  ·have hrun : (loadVar ty ⟨b, 0, none⟩).run P w = .ok v w := run_loadVar_one ht (by rw [hcell, hv]; rfl)
   exact ⟨v, by simp [resV, hp, asAddr, hrun], hr⟩
  ·have hrun : (loadVar ty ⟨b, 0, none⟩).run P w = .ok (.agg vs.toList.toArray) w :=
    run_loadVar_agg ht hk (fun j v hj => by rw [add_lit0, Nat.zero_add, hcell]; exact hj)
   exact ⟨_, by simp [resV, hp, asAddr, hrun], hr⟩
theorem resAll_sound (hs : Sim P n w0 ok0 own0 β f L p a w) : ∀ {rs : List ResultVar} {ss : List S}, resAll P L f rs = some ss →
 ∃ vs, (rs.mapM (resV a.tmps)).run P w = .ok vs w ∧ RelA P w β (okB w0 ok0 L β) ss vs
 | [], ss, h => by simp only [resAll, Option.some.injEq] at h; subst h; exact ⟨[], rfl, trivial⟩
 | r :: rs, ss, h => by
  simp only [resAll] at h
  cases hr : resS P L f r with
  | none => simp [hr] at h
  | some s => cases hrs : resAll P L f rs with
   | none => simp [hr, hrs] at h
   | some us =>
    simp only [hr, hrs, Option.some.injEq] at h
    subst h
    obtain ⟨v, h1, h2⟩ := resS_sound hs hr
    obtain ⟨vs, h3, h4⟩ := resAll_sound hs hrs
    exact ⟨v :: vs, by simp only [List.mapM_cons, Sem.run_bind, h1, Result.andThen_ok, h3, Sem.run_pure], h2, h4⟩
theorem outS_sound {k : List S → K0} : ∀ (fuel : Nat) {ss : List S} {f : Rg} {L : Ob} {p : Po} {vs : List Value}, Sim P n w0 ok0 own0 β f L p a w → RelA P w β (okB w0 ok0 L β) ss vs → outS fuel ss k f L p →
 ∃ ss' f' L' p', k ss' f' L' p' ∧ Sim P n w0 ok0 own0 β f' L' p' a w ∧ Tr L β w L' β w ∧ RelA P w β (okB w0 ok0 L' β) ss' vs
 | 0, _, _, _, _, _, _, _, h => h.elim
 | fuel + 1, ss, f, L, p, vs, hs, hr, h => by
  cases hi : ownsS ss with
  | none => simp only [outS, hi] at h; exact ⟨ss, f, L, p, h, hs, Tr.refl _ _ _, hr⟩
  | some i =>
   simp only [outS, hi] at h
   obtain ⟨m, x, f', L', p', hk, hs', ht, hm, hx⟩ := frz_sound hs h
   obtain ⟨ss', f'', L'', p'', hk', hs'', ht', hr'⟩ := outS_sound fuel hs' (fSs_rel hm hx hr) hk
   exact ⟨ss', f'', L'', p'', hk', hs'', ht.trans ht', hr'⟩
theorem comps_rel {ok : Nat → Prop} : ∀ {ss : List S} {vs : List Value} {q : List (List C × Bool)}, RelA P w β ok ss vs → wrapS.compsS ss = some q → RelT P w β ok q vs
 | [], [], q, _, h => by simp [wrapS.compsS] at h; subst h; trivial
 | s :: r, v :: vs, q, hr, h => by
  cases s with
  | tu xs => simp [wrapS.compsS] at h
  | c x =>
   simp only [wrapS.compsS] at h
   split at h
   ·rename_i q' hq
    injection h with h; subst h
    exact ⟨by simp only [RelT1, if_true]; exact ⟨hr.1, trivial⟩, comps_rel hr.2 hq⟩
   ·cases h
  | ag cs =>
   simp only [wrapS.compsS] at h
   split at h
   ·rename_i q' hq
    injection h with h; subst h
    exact ⟨by simp only [RelT1, Bool.false_eq_true, if_false]; exact hr.1, comps_rel hr.2 hq⟩
   ·cases h
 | [], _ :: _, _, hr, _ => hr.elim
 | _ :: _, [], _, hr, _ => hr.elim
theorem wrap_rel {ok : Nat → Prop} {ss : List S} {vs : List Value} {s : S} (hr : RelA P w β ok ss vs) (h : wrapS ss = some s) : RelS P w β ok s (wrapRes vs) := by
 have tup : ∀ {vs : List Value} {ss : List S}, RelA P w β ok ss vs → (wrapS.compsS ss).map S.tu = some s → RelS P w β ok s (.tuple vs.toArray) := by
  intro vs ss hr h
  cases hq : wrapS.compsS ss with
  | none => simp [hq] at h
  | some q => simp [hq] at h; subst h; exact ⟨vs, rfl, comps_rel hr hq⟩
 match ss, vs, hr with
 | [], [], hr => exact tup hr h
 | [x], [v], hr => simp [wrapS] at h; subst h; exact hr.1
 | x :: y :: r, v :: u :: t, hr => exact tup hr h
 | [], _ :: _, hr => exact hr.elim
 | _ :: _, [], hr => exact hr.elim
 | [_], _ :: _ :: _, hr => exact hr.2.elim
 | _ :: _ :: _, [_], hr => exact hr.2.elim
variable {ρ : List (Nat × Nat)} {A : Ob} {bs : List Nat}
theorem leT_rel (hs : Sim P n w0 ok0 own0 β f L p a w) (hB : leB ρ L A) (hd : ∀ i ∈ bs, i ∉ ρ.map (·.2)) : ∀ {x c : List (List C × Bool)} {y : List Value}, (∀ i ∈ brwT x c, i ∈ bs) → leT ρ L x c → RelT P w β (okB w0 ok0 L β) x y →
 RelT P w (bc ρ β) (okA (okc w0 ok0 L β bs) A (bc ρ β)) c y
 | [], [], [], _, _, _ => trivial
 | (x, t) :: r, (c, u) :: s, y :: q, hb, h, hr => by
  obtain ⟨rfl, h1, h2⟩ := h
  refine ⟨?_, leT_rel hs hB hd (fun i hi => hb i (by simp [brwT, hi])) h2 hr.2⟩
  have hr1 := hr.1
  simp only [RelT1] at hr1 ⊢
  have hb1 : ∀ i ∈ brwL x c, i ∈ bs := fun i hi => hb i (by simp [brwT, hi])
  split
  ·rename_i ht; rw [if_pos ht] at hr1; exact leL_rel hs hB hd hb1 h1 hr1
  ·rename_i ht; rw [if_neg ht] at hr1; obtain ⟨vs, q1, q2⟩ := hr1; exact ⟨vs, q1, leL_rel hs hB hd hb1 h1 q2⟩
 | [], [], _ :: _, _, _, hr => hr.elim
 | [], _ :: _, _, _, h, _ => h.elim
 | _ :: _, [], _, _, h, _ => h.elim
 | _ :: _, _ :: _, [], _, _, hr => hr.elim
theorem leR_rel (hs : Sim P n w0 ok0 own0 β f L p a w) (hB : leB ρ L A) (hd : ∀ i ∈ bs, i ∉ ρ.map (·.2)) {x c : S} {y : Value} (hb : ∀ i ∈ brwR x c, i ∈ bs) (h : leR ρ L x c) (hr : RelS P w β (okB w0 ok0 L β) x y) :
 RelS P w (bc ρ β) (okA (okc w0 ok0 L β bs) A (bc ρ β)) c y := by
 cases x <;> cases c <;> simp only [leR] at h
 ·exact leC_rel hs hB hd hb h hr
 ·obtain ⟨vs, h1, h2⟩ := hr
  exact ⟨vs, h1, leL_rel hs hB hd hb h h2⟩
 ·obtain ⟨vs, h1, h2⟩ := hr
  exact ⟨vs, h1, leT_rel hs hB hd hb h h2⟩
theorem lk_append_some : ∀ {ρ σ : List (Nat × Nat)} {j i : Nat}, lk ρ j = some i → lk (ρ ++ σ) j = some i
 | [], _, _, _, h => by simp [lk] at h
 | (a, b) :: r, σ, j, i, h => by
  simp only [List.cons_append, lk] at h ⊢
  split
  ·rename_i e; rw [if_pos e] at h; exact h
  ·rename_i e; rw [if_neg e] at h; exact lk_append_some h
theorem lk_rhoB : ∀ {A : Ob} {ρ : List (Nat × Nat)} {j i : Nat}, lk ρ j = some i → lk (rhoB L ρ A) j = some i
 | [], _, _, _, h => h
 | (q, .str cs) :: r, ρ, j, i, h => by
  simp only [rhoB]
  split
  ·split
   ·exact lk_rhoB (lk_append_some h)
   ·exact lk_rhoB h
  ·exact lk_rhoB h
 | (q, .arr ..) :: r, ρ, j, i, h => by simp only [rhoB]; exact lk_rhoB h
theorem lk_idp : ∀ {m k t : Nat}, t < m → lk (idp k m) (9000 + (k + t)) = some (9000 + (k + t))
 | 0, _, _, h => by omega
 | m + 1, k, 0, _ => by simp [idp, lk]
 | m + 1, k, t + 1, h => by
  have ih := lk_idp (m := m) (k := k + 1) (t := t) (by omega)
  have e : 9000 + (k + (t + 1)) = 9000 + (k + 1 + t) := by omega
  rw [e]
  simp only [idp, lk]
  rw [if_neg (by omega)]; exact ih
theorem end_sound {rs : List ResultVar} {R : S → List (List C) → Prop} {Lc : Ob} {βc : Nat → Option Nat} {okk : Nat → Prop} {nobj : Nat} {T : List Nat} (hs : Sim P n w0 (fun b => okk b ∨ ownB Lc βc b) (fun b => ownB Lc βc b ∨ b ∈ T) β f L p a w) (h : dRet P rs nobj R f L p)
 (hfix : ∀ k, k < nobj → β (9000 + k) = βc (9000 + k)) (htr : Tr Lc βc w0 L β w) :
 ∃ vs, (rs.mapM (resV a.tmps)).run P w = .ok vs w ∧ ∃ r objs β', R r objs ∧ PostT P w0 βc okk Lc nobj (wrapRes vs) w r objs β' T := by
 unfold dRet at h
 split at h
 case h_2 => exact h.elim
 rename_i ss hss
 obtain ⟨vs, hrun, hr⟩ := resAll_sound hs hss
 obtain ⟨ss', f', L', p', hk, hs', ht, hr'⟩ := outS_sound 12 hs hr h
 split at hk
 case h_2 => exact hk.elim
 rename_i s hsw
 obtain ⟨r, objs, hR, e⟩ := hk
 have hrs := wrap_rel hr' hsw
 have htr' := htr.trans ht
 obtain ⟨e1, e2, e3, e4, e5, e6, e7⟩ := e
 generalize hρ : rhoE L' s r nobj objs = ρ at *
 have hd := disjB_spec e6
 generalize hbs : brwE L' ρ s r objs = bs at *
 have hb1 : ∀ i ∈ brwR s (expS 9700 r), i ∈ bs := fun i hi => by rw [← hbs]; exact List.mem_append_left _ hi
 have hb2 : ∀ i ∈ brwB L' ρ (back r objs), i ∈ bs := fun i hi => by rw [← hbs]; exact List.mem_append_right _ hi
 have hrel := leR_rel hs' e4 hd hb1 e3 hrs
 have hobj := lent_objs hs' e4 e5 hd hb2
 have hok : ∀ b, okA (okc w0 (fun b => okk b ∨ ownB Lc βc b) L' β bs) (back r objs) (bc ρ β) b → okR w0 okk Lc βc (back r objs) (bc ρ β) b := fun b hb => ⟨hb.1, fun hlt => by
  rcases hb.2 with h1 | ⟨i, _, ⟨o, h1⟩, h2⟩
  ·exact h1.2 hlt
  ·exact .inr (htr'.own b hlt ⟨i, o, h1, h2⟩)⟩
 have hown : ∀ b, ownB (back r objs) (bc ρ β) b → ownB L' β b := fun b ho => by
  obtain ⟨j, i, o1, o2, _, _, h3, _, h4⟩ := ownB_lent e4 ho; exact ⟨i, o2, h3, h4⟩
 have hst := stab_mono (w := w) hok
 refine ⟨vs, hrun, r, objs, bc ρ β, hR, ⟨hrel.st hst, ⟨fun i o hl => (hobj.rel i o hl).st hst fun _ _ => rfl, hobj.inj⟩, fun k hk => ?_, e1, ⟨htr'.size, htr'.keep, fun b hb ho => htr'.own b hb (hown b ho), htr'.cells⟩, hs'.wd, hs'.outer, ?_, e2⟩⟩
 ·have : lk ρ (9000 + k) = some (9000 + k) := by
   rw [← hρ]
   refine lk_rhoB (lk_append_some ?_)
   have := lk_idp (m := nobj) (k := 0) (t := k) hk
   rwa [Nat.zero_add] at this
  simp only [bc, this, Option.bind_some]
  exact hfix k hk
 ·unfold inPool at e7
  split at e7
  ·rw [e7]; exact ⟨List.nodup_nil, fun b hb => by cases hb⟩
  ·rename_i ps
   obtain ⟨h1, h2⟩ := hs'.pool ps rfl
   exact ⟨e7.nodup h1, fun b hb => ⟨(h2 b (e7.mem hb)).1, (h2 b (e7.mem hb)).2.1, fun ho => (h2 b (e7.mem hb)).2.2 (hown b ho)⟩⟩
theorem regs0_rel {ok : Nat → Prop} (k : Nat) : ∀ {args : List S} {vs : List Value} (_ : RelA P w β ok args vs) (i : Nat), RelS P w β ok (regs0 args i) ((vs ++ List.replicate k undef)[i]?.getD undef)
 | [], [], _, i => by
  have : (([] : List Value) ++ List.replicate k undef)[i]?.getD undef = undef := by
   simp only [List.nil_append, List.getElem?_replicate]; split <;> rfl
  rw [this]; exact undef_rel
 | x :: r, v :: t, h, 0 => h.1
 | x :: r, v :: t, h, i + 1 => by simpa [regs0] using regs0_rel k h.2 i
 | [], _ :: _, h, _ => h.elim
 | _ :: _, [], h, _ => h.elim
theorem RelA.length {ok : Nat → Prop} : ∀ {xs : List S} {vs : List Value}, RelA P w β ok xs vs → xs.length = vs.length
 | [], [], _ => rfl
 | _ :: _, _ :: _, h => by simp [RelA.length h.2]
 | [], _ :: _, h => h.elim
 | _ :: _, [], h => h.elim
theorem expA_length : ∀ (b : Nat) (xs : List S), (expA b xs).length = xs.length
 | _, [] => rfl
 | b, x :: r => by simp [expA, expA_length]
theorem clT_of_d (hm : P.follows .mixedOrders = true) {fi : FuncId} {fn : Func} {c : Code} {args : List S} {objs : List (List C)} {R : S → List (List C) → Prop} (p0 : Po) (T : List Nat) (hp0 : ∀ ps, p0 = some ps → ps.flatten = T) (hf : P.funcs[fi]? = some fn) (hb : fn.body = some c)
 (hc : (callable P fi && decide (fn.ntmps ≤ 9000) && decide (args.length ≤ fn.ntmps) && okCode c && (dsts c).all (fun j => decide (j < 9000)) && decide (objs.length ≤ 100)) = true)
 (h : d P fn.ntmps c (endK P fn.results.toList objs.length R) (regs0 (expA 9500 args)) (lent args objs) p0) : ClT P fi args objs T R := by
 simp only [Bool.and_eq_true, decide_eq_true_eq] at hc
 obtain ⟨⟨⟨⟨⟨hcall, hn⟩, hargs⟩, hok⟩, hds⟩, hobjs⟩ := hc
 refine ⟨hcall, fun w βc okk vs ha ho hg hT => calls_of_wp hf hb ?_⟩
 have hup : ∀ b, okA okk (lent args objs) βc b → okB w (fun b => okk b ∨ ownB (lent args objs) βc b) (lent args objs) βc b := fun b hb => ⟨hb.1, fun _ => .inl hb.2⟩
 have hst := stab_mono (w := w) hup
 have hlen : vs.length = args.length := by rw [← ha.length, expA_length]
 have ha' : RelA P w βc (okB w (fun b => okk b ∨ ownB (lent args objs) βc b) (lent args objs) βc) (expA 9500 args) vs := by
  have : ∀ {xs : List S} {us : List Value}, RelA P w βc (okA okk (lent args objs) βc) xs us → RelA P w βc (okB w (fun b => okk b ∨ ownB (lent args objs) βc b) (lent args objs) βc) xs us := by
   intro xs
   induction xs with
   | nil => intro us h; cases us <;> exact h
   | cons x r ih => intro us h; cases us with
    | nil => exact h.elim
    | cons u t => exact ⟨h.1.st hst, ih h.2⟩
  exact this ha
 have hs : Sim P fn.ntmps w (fun b => okk b ∨ ownB (lent args objs) βc b) (fun b => ownB (lent args objs) βc b ∨ b ∈ T) βc (regs0 (expA 9500 args)) (lent args objs) p0 { tmps := vs.toArray ++ Array.replicate (fn.ntmps - vs.toArray.size) undef, defers := [] } w := by
  refine ⟨by simp; omega, rfl, fun i => ?_, fun i o hl => (ho.rel i o hl).st hst fun _ _ => rfl, ho.inj, fun b hb _ => .inl hb, ⟨fun b hb => hb.elim .inr fun h => .inl (hT.2 b h).1.2, hg⟩, fun _ _ _ => rfl, Wd.refl _, ⟨rfl, rfl, rfl⟩, fun ps hps => ?_⟩
  ·have := regs0_rel (fn.ntmps - vs.length) ha' i
   have e : (vs.toArray ++ Array.replicate (fn.ntmps - vs.toArray.size) undef)[i]? = (vs ++ List.replicate (fn.ntmps - vs.length) undef)[i]? := by
    rw [← Array.getElem?_toList]; simp
   simp only [Array.getD_eq_getD_getElem?, e]; exact this
  ·rw [hp0 ps hps]
   exact ⟨hT.1, fun b hb => ⟨.inr (.inr hb), (hT.2 b hb).2, (hT.2 b hb).1.1⟩⟩
 refine d_sound hm hn c hok hs h fun e β' f' L' p' a' w' hs' hk ht h' => ?_
 have fin : dRet P fn.results.toList objs.length R f' L' p' → a'.defers = [] ∧ ∃ v, (results fn a'.tmps).run P w' = .ok v w' ∧
  (fun e w'' => ∃ v r objs' β'', e = Ending.returned v ∧ R r objs' ∧ PostT P w βc okk (lent args objs) objs.length v w'' r objs' β'' T) (.returned v) w' := by
  intro h'
  obtain ⟨us, hrun, r, os, β'', hR, hp⟩ := end_sound hs' h' (fun k hk' => hk.beta _ fun e => by
   have h1 := List.all_eq_true.1 hds _ e
   simp only [decide_eq_true_eq] at h1
   rw [fam_fam (by omega)] at h1
   omega) ht
  exact ⟨hs'.defers, _, results_run hrun, _, r, os, β'', rfl, hR, hp⟩
 cases e with
 | normal => exact fin h'
 | ret => exact fin h'
 | exit id => exact h'.elim
 | goto l => exact h'.elim
 | panic ch => exact h'.elim
 | outgrown => exact h'.elim
theorem cl_of_d (hm : P.follows .mixedOrders = true) {fi : FuncId} {fn : Func} {c : Code} {args : List S} {objs : List (List C)} {R : S → List (List C) → Prop} (fr : Bool) (hf : P.funcs[fi]? = some fn) (hb : fn.body = some c)
 (hc : (callable P fi && decide (fn.ntmps ≤ 9000) && decide (args.length ≤ fn.ntmps) && okCode c && (dsts c).all (fun j => decide (j < 9000)) && decide (objs.length ≤ 100)) = true)
 (h : d P fn.ntmps c (endK P fn.results.toList objs.length R) (regs0 (expA 9500 args)) (lent args objs) (if fr = true then some [] else none)) : Cl P fi args objs R :=
 ClT.cl (clT_of_d hm (if fr = true then some [] else none) [] (fun ps h => by
  split at h
  ·injection h with h; subst h; rfl
  ·cases h) hf hb hc h)
end
end Go.Dv
namespace Go.Dv
open Go Go.RowKit
open Go.Vc (okV run_eqGuard plainV shrI xorI andI bytes_eq Plan)
variable [Out]
section
variable {P : Program} {n : Nat} {d : Option Nat} {K : K0} {f : Rg} {L : Ob} {p : Po} {t s : TypeId} {x y : Operand} {k yk : IntKind} {a b : Int} {u v : ByteArray} {i j : Bool}
theorem dPure_of {s : Sem Value} {v : Value} (h : ∀ w, s.run P w = .ok v w) (hk : okV v) : dPure P n d s K f L p = K (put n f d (.c (.v v))) L p := by
 unfold dPure
 apply propext
 constructor
 ·rintro ⟨v', hv, _, hk'⟩
  have := (hv default).symm.trans (h default)
  injection this with e _
  subst e; exact hk'
 ·exact fun hk' => ⟨v, h, hk, hk'⟩
theorem pu_add : dPure P n d (do eqGuard .add t x y (.int k a) (.int k b); binOp .add t (.int k a) (.int k b)) K f L p = K (put n f d (.c (.v (.int k (k.wrap (a + b)))))) L p :=
 dPure_of (fun w => by rw [run_eqGuard rfl]; simp [binOp, Op.intArith]) trivial
theorem pu_sub : dPure P n d (do eqGuard .sub t x y (.int k a) (.int k b); binOp .sub t (.int k a) (.int k b)) K f L p = K (put n f d (.c (.v (.int k (k.wrap (a - b)))))) L p :=
 dPure_of (fun w => by rw [run_eqGuard rfl]; simp [binOp, Op.intArith]) trivial
theorem pu_mul : dPure P n d (do eqGuard .mul t x y (.int k a) (.int k b); binOp .mul t (.int k a) (.int k b)) K f L p = K (put n f d (.c (.v (.int k (k.wrap (a * b)))))) L p :=
 dPure_of (fun w => by rw [run_eqGuard rfl]; simp [binOp, Op.intArith]) trivial
theorem pu_lss : dPure P n d (do eqGuard .lss t x y (.int k a) (.int k b); binOp .lss t (.int k a) (.int k b)) K f L p = K (put n f d (.c (.v (.bool (decide (a < b)))))) L p :=
 dPure_of (fun w => by rw [run_eqGuard rfl]; simp [binOp, Op.intCmp]) trivial
theorem pu_leq : dPure P n d (do eqGuard .leq t x y (.int k a) (.int k b); binOp .leq t (.int k a) (.int k b)) K f L p = K (put n f d (.c (.v (.bool (decide (a ≤ b)))))) L p :=
 dPure_of (fun w => by rw [run_eqGuard rfl]; simp [binOp, Op.intCmp]) trivial
theorem pu_gtr : dPure P n d (do eqGuard .gtr t x y (.int k a) (.int k b); binOp .gtr t (.int k a) (.int k b)) K f L p = K (put n f d (.c (.v (.bool (decide (b < a)))))) L p :=
 dPure_of (fun w => by rw [run_eqGuard rfl]; simp [binOp, Op.intCmp]) trivial
theorem pu_geq : dPure P n d (do eqGuard .geq t x y (.int k a) (.int k b); binOp .geq t (.int k a) (.int k b)) K f L p = K (put n f d (.c (.v (.bool (decide (b ≤ a)))))) L p :=
 dPure_of (fun w => by rw [run_eqGuard rfl]; simp [binOp, Op.intCmp]) trivial
theorem pu_eql : dPure P n d (do eqGuard .eql t x y (.int k a) (.int k b); binOp .eql t (.int k a) (.int k b)) K f L p = K (put n f d (.c (.v (.bool (decide (a = b)))))) L p :=
 dPure_of (fun w => by rw [run_eqGuard rfl]; simp [binOp, Op.intCmp]; rfl) trivial
theorem pu_neq : dPure P n d (do eqGuard .neq t x y (.int k a) (.int k b); binOp .neq t (.int k a) (.int k b)) K f L p = K (put n f d (.c (.v (.bool (!decide (a = b)))))) L p :=
 dPure_of (fun w => by rw [run_eqGuard rfl]; simp [binOp, Op.intCmp]; rfl) trivial
theorem pu_seql : dPure P n d (do eqGuard .eql t x y (.string u) (.string v); binOp .eql t (.string u) (.string v)) K f L p = K (put n f d (.c (.v (.bool (decide (u = v)))))) L p :=
 dPure_of (fun w => by rw [run_eqGuard rfl]; simp [binOp, Op.stringOp, bytes_eq]) trivial
theorem pu_sneq : dPure P n d (do eqGuard .neq t x y (.string u) (.string v); binOp .neq t (.string u) (.string v)) K f L p = K (put n f d (.c (.v (.bool (!decide (u = v)))))) L p :=
 dPure_of (fun w => by rw [run_eqGuard rfl]; simp [binOp, Op.stringOp, bytes_eq]) trivial
theorem pu_slss : dPure P n d (do eqGuard .lss t x y (.string u) (.string v); binOp .lss t (.string u) (.string v)) K f L p = K (put n f d (.c (.v (.bool (Op.bytesLess u.toList v.toList))))) L p :=
 dPure_of (fun w => by rw [run_eqGuard rfl]; simp [binOp, Op.stringOp]) trivial
theorem pu_sgtr : dPure P n d (do eqGuard .gtr t x y (.string u) (.string v); binOp .gtr t (.string u) (.string v)) K f L p = K (put n f d (.c (.v (.bool (!(Op.bytesLess u.toList v.toList || decide (u = v))))))) L p :=
 dPure_of (fun w => by rw [run_eqGuard rfl]; simp [binOp, Op.stringOp, bytes_eq]) trivial
theorem pu_sadd (h : u.size + v.size ≤ 9223372036854775807) : dPure P n d (do eqGuard .add t x y (.string u) (.string v); binOp .add t (.string u) (.string v)) K f L p = K (put n f d (.c (.v (.string (u ++ v))))) L p :=
 dPure_of (fun w => by rw [run_eqGuard rfl]; have : ¬ (9223372036854775807 < (u.size : Int) + (v.size : Int)) := by omega
                       simp [binOp, Op.stringOp, IntKind.max, IntKind.bits, IntKind.signed]; omega) (by show (u ++ v).size ≤ maxLen; rw [ByteArray.size_append]; simp only [maxLen]; omega)
theorem pu_beql (h : P.underlying t = some .bool) : dPure P n d (do eqGuard .eql t x y (.bool i) (.bool j); binOp .eql t (.bool i) (.bool j)) K f L p = K (put n f d (.c (.v (.bool (i == j))))) L p :=
 dPure_of (fun w => by rw [run_eqGuard rfl]; exact run_eql_bool w t i j h) trivial
theorem pu_bneq (h : P.underlying t = some .bool) : dPure P n d (do eqGuard .neq t x y (.bool i) (.bool j); binOp .neq t (.bool i) (.bool j)) K f L p = K (put n f d (.c (.v (.bool (!(i == j)))))) L p :=
 dPure_of (fun w => by rw [run_eqGuard rfl]; exact run_neq_bool w t i j h) trivial
theorem pu_not : dPure P n d (Op.unary .not (.bool i)) K f L p = K (put n f d (.c (.v (.bool (!i))))) L p := dPure_of (fun w => by simp [Op.unary]) trivial
theorem pu_neg : dPure P n d (Op.unary .neg (.int k a)) K f L p = K (put n f d (.c (.v (.int k (k.wrap (-a)))))) L p := dPure_of (fun w => by simp [Op.unary, Op.intArith]) trivial
theorem pu_rem (h : b ≠ 0) : dPure P n d (do eqGuard .rem t x y (.int k a) (.int k b); binOp .rem t (.int k a) (.int k b)) K f L p = K (put n f d (.c (.v (.int k (a.tmod b))))) L p :=
 dPure_of (fun w => by rw [run_eqGuard rfl]; simp [binOp, Op.intDiv, h]) trivial
theorem pu_quo (h : b ≠ 0) : dPure P n d (do eqGuard .quo t x y (.int k a) (.int k b); binOp .quo t (.int k a) (.int k b)) K f L p = K (put n f d (.c (.v (.int k (k.wrap (a.tdiv b)))))) L p :=
 dPure_of (fun w => by rw [run_eqGuard rfl]; simp [binOp, Op.intDiv, h]) trivial
theorem pu_shr (h : 0 ≤ b) : dPure P n d (do eqGuard .shr t x y (.int k a) (.int yk b); binOp .shr t (.int k a) (.int yk b)) K f L p = K (put n f d (.c (.v (.int k (shrI k a b))))) L p :=
 dPure_of (fun w => by rw [run_eqGuard rfl]; have : ¬ b < 0 := by omega
                       simp [binOp, Op.shift, this, shrI]) trivial
theorem pu_xor : dPure P n d (do eqGuard .xor t x y (.int k a) (.int k b); binOp .xor t (.int k a) (.int k b)) K f L p = K (put n f d (.c (.v (.int k (xorI k a b))))) L p :=
 dPure_of (fun w => by rw [run_eqGuard rfl]; simp [binOp, Op.intBits, xorI]) trivial
theorem pu_and : dPure P n d (do eqGuard .and t x y (.int k a) (.int k b); binOp .and t (.int k a) (.int k b)) K f L p = K (put n f d (.c (.v (.int k (andI k a b))))) L p :=
 dPure_of (fun w => by rw [run_eqGuard rfl]; simp [binOp, Op.intBits, andI]) trivial
theorem pu_cint (hs : (P.underlying s).isSome = true) (hd : P.underlying t = some (.int (P.intKind t))) : dPure P n d (convert s t (.int k a)) K f L p = K (put n f d (.c (.v (.int (P.intKind t) ((P.intKind t).wrap a))))) L p :=
 dPure_of (fun w => run_convert_int w s t k a hs hd) trivial
theorem pu_index (h : P.underlying t = some .string) (h0 : 0 ≤ a) (h1 : a < u.size) : dPure P n d (Instr.index t (.string u) (.int k a)) K f L p = K (put n f d (.c (.v (.int .u8 (u[a.toNat]'(by omega)).toNat)))) L p :=
 dPure_of (fun w => by
  have hlt : a.toNat < u.size := by omega
  have e : u[a.toNat]? = some (u[a.toNat]'hlt) := getElem?_pos u a.toNat hlt
  simp [Instr.index, asIntOf, run_underlying h, h0, e]) trivial
theorem okV_extract (h : okV (.string u)) (i j : Nat) : okV (.string (u.extract i j)) := by
 have h : u.size ≤ maxLen := h
 show (u.extract i j).size ≤ maxLen
 rw [ByteArray.size_extract]; omega
theorem pu_cut (h : P.underlying t = some .string) (hu : okV (.string u)) (h0 : 0 ≤ a) (h1 : a ≤ b) (h2 : b ≤ u.size) : dPure P n d (Instr.sliceAt t (.string u) (some (.int k a)) (some (.int yk b)) none) K f L p = K (put n f d (.c (.v (.string (u.extract a.toNat b.toNat))))) L p :=
 dPure_of (fun w => by rw [run_sliceAt_string w t _ _ _ _ h]; exact run_slice_string w t u k yk a b h h0 h1 h2) (okV_extract hu _ _)
theorem pu_from (h : P.underlying t = some .string) (hu : okV (.string u)) (h0 : 0 ≤ a) (h2 : a ≤ u.size) : dPure P n d (Instr.sliceAt t (.string u) (some (.int k a)) none none) K f L p = K (put n f d (.c (.v (.string (u.extract a.toNat u.size))))) L p :=
 dPure_of (fun w => by rw [run_sliceAt_string w t _ _ _ _ h, run_slice_string_from_if w t u k a h, if_pos ⟨h0, h2⟩]) (okV_extract hu _ _)
theorem pu_to (h : P.underlying t = some .string) (hu : okV (.string u)) (h0 : 0 ≤ b) (h2 : b ≤ u.size) : dPure P n d (Instr.sliceAt t (.string u) none (some (.int k b)) none) K f L p = K (put n f d (.c (.v (.string (u.extract 0 b.toNat))))) L p :=
 dPure_of (fun w => by rw [run_sliceAt_string w t _ _ _ _ h, run_slice_string_to_if w t u k b h, if_pos ⟨h0, h2⟩]) (okV_extract hu _ _)
theorem pu_eqagg {xs ys : Array Value} {c : Bool} (hm : P.eqGuardType P.depth t = false)
 (h : ∀ w, (Op.equalIn 10000 t (.agg xs) (.agg ys)).run P w = .ok c w) : dPure P n d (do eqGuard .eql t x y (.agg xs) (.agg ys); binOp .eql t (.agg xs) (.agg ys)) K f L p = K (put n f d (.c (.v (.bool c)))) L p :=
 dPure_of (fun w => by simp only [Sem.run_bind, run_eqGuard_agg w _ _ _ _ _ _ hm, Result.andThen_ok, run_eql_struct, h]) trivial
theorem pu_neagg {xs ys : Array Value} {c : Bool} (hm : P.eqGuardType P.depth t = false)
 (h : ∀ w, (Op.equalIn 10000 t (.agg xs) (.agg ys)).run P w = .ok c w) : dPure P n d (do eqGuard .neq t x y (.agg xs) (.agg ys); binOp .neq t (.agg xs) (.agg ys)) K f L p = K (put n f d (.c (.v (.bool (!c))))) L p :=
 dPure_of (fun w => by simp only [Sem.run_bind, run_eqGuard_agg w _ _ _ _ _ _ hm, Result.andThen_ok, run_neq_struct, h]) trivial
end
def pln : List Nat → Plan
 | [] => .done
 | x :: r => if x % 2 = 0 then .take (x / 2) (pln r) else .br (x / 2) (pln r) .nobr
end Go.Dv
namespace Go.Dv
open Go
open Go.Vc (D guardSlot Plan inX)
variable [Out]
section
variable (P : Program) (n : Nat) (K : KE) (f g : Rg) (L : Ob) (p : Po)
theorem cv0 (b : Bool) : cvS (.bool b) = .c (.v (.bool b)) := rfl
theorem cv1 (k : IntKind) (z : Int) : cvS (.int k z) = .c (.v (.int k z)) := rfl
theorem cv2 (s : ByteArray) : cvS (.string s) = .c (.v (.string s)) := rfl
theorem cv3 (a : Option Addr) : cvS (.pointer a) = .c (.v (.pointer a)) := rfl
theorem cv4 (a : Option Addr) (l c : Nat) : cvS (.slice a l c) = .c (.v (.slice a l c)) := rfl
theorem cv5 : cvS .nilFunc = .c (.v .nilFunc) := rfl
theorem cv6 : cvS .nilIface = .c (.v .nilIface) := rfl
theorem cv7 (xs : List Value) : cvS (.agg xs.toArray) = .ag (xs.map .v) := by simp [cvS]
theorem cv8 (t : TypeId) (v : Value) : cvS (.iface t v) = .c (.v (.iface t v)) := rfl
theorem cv9 (k : FloatKind) (z : Nat) : cvS (.float k z) = .c (.v (.float k z)) := rfl
theorem a0 : d P n .skip K f L p = K .normal f L p := rfl
theorem a1 (l : Nat) : d P n (.label l) K f L p = K .normal f L p := rfl
theorem a2 (id : Nat) (ops : Array Oper) : d P n (.region id ops false) K f L p = dl P n ops (K .normal) ops.toList f L p := rfl
theorem a3 (x y : Code) : d P n (.seq x y) K f L p = d P n x (fun e => match e with | .normal => d P n y K | e => K e) f L p := rfl
theorem a4 (c : Operand) (x y : Code) : d P n (.cond c x y) K f L p = match ev f c with | .c (.v (.bool t)) => (t = true → d P n x K f L p) ∧ (t = false → d P n y K f L p) | _ => False := rfl
theorem a5 (id : Nat) (c : Code) : d P n (.block id c) K f L p = d P n c (fun e => match e with | .exit id' => if id' = id then K .normal else K (.exit id') | e => K e) f L p := rfl
theorem a6 (c : Code) : d P n (.loop c) K f L p = dLoop (Go.Vc.dsts c) (d P n c) K f L p := rfl
theorem a7 (id : Nat) : d P n (.exit id) K f L p = K (.exit id) f L p := rfl
theorem a8 : d P n .ret K f L p = K .ret f L p := rfl
theorem a9 (ops : Array Oper) (Q : K0) : dl P n ops Q [] f L p = Q f L p := rfl
theorem a10 (ops : Array Oper) (Q : K0) (dst : Option Nat) (op : Op) (ty : TypeId) (pos : String) (af : Array Edge) (gd : Option (Nat × Bool)) (r : List Oper) : dl P n ops Q (⟨dst, op, ty, pos, af, gd⟩ :: r) f L p = dGuard n ops ⟨dst, op, ty, pos, af, gd⟩ (dOpF (CallK P) P n ⟨dst, op, ty, pos, af, gd⟩) (dl P n ops Q r) f L p := rfl
theorem a12 (s : Nat) (v : S) (t : Nat) : upd f s v t = if t = s then v else f t := rfl
theorem a13 (ws : List Nat) (s : Nat) : mixR ws f g s = if Go.Vc.inN ws s = true then g s else kS ws [] (f s) := rfl
theorem a14 (ds is : List Nat) (s : Nat) : kR ds is f s = kS ds is (f s) := rfl
theorem a15 (i m : Nat) (x : C) (s : Nat) : fR i m x f s = fS i m x (f s) := rfl
theorem a16 (i j s : Nat) : renR i j f s = renS i j (f s) := rfl
theorem a17 (s : Nat) : regs0 [] s = .tu [] := rfl
theorem a18 (v : S) (vs : List S) : regs0 (v :: vs) 0 = v := rfl
theorem a19 (v : S) (vs : List S) (s : Nat) : regs0 (v :: vs) (s + 1) = regs0 vs s := rfl
theorem a20 (rs : List ResultVar) (k : Nat) (R : S → List (List C) → Prop) : endK P rs k R .normal f L p = dRet P rs k R f L p := rfl
theorem a21 (rs : List ResultVar) (k : Nat) (R : S → List (List C) → Prop) : endK P rs k R .ret f L p = dRet P rs k R f L p := rfl
theorem a20n (rs : List ResultVar) (R : List C → Prop) : endKN P rs R .normal f L p = dRetN P rs R f L p := rfl
theorem a21n (rs : List ResultVar) (R : List C → Prop) : endKN P rs R .ret f L p = dRetN P rs R f L p := rfl
theorem a20m (rs : List ResultVar) (R : List C → List C × Bool → Prop) : endKM P rs R .normal f L p = dRetM P rs R f L p := rfl
theorem a21m (rs : List ResultVar) (R : List C → List C × Bool → Prop) : endKM P rs R .ret f L p = dRetM P rs R f L p := rfl
theorem a22 (id : Nat) (ops : Array Oper) : d P n (.region id ops true) K f L p = dDrawn P n ops (K .normal) f L p := rfl
theorem a23 (ops : Array Oper) (xs : List Nat) (Q : K0) : dPlan P n ops xs Q .done f L p = Q f L p := rfl
theorem a24 (ops : Array Oper) (xs : List Nat) (Q : K0) : dPlan P n ops xs Q .nobr f L p = True := rfl
theorem a25 (ops : Array Oper) (xs : List Nat) (Q : K0) (i : Nat) (r : Plan) : dPlan P n ops xs Q (.take i r) f L p = match ops.toList[i]? with
 | some o => dGuard n ops o (dOp (CallK P) P n o) (dPlan P n ops xs Q r) f L p
 | none => False := by rw [Array.getElem?_toList, dPlan] <;> rfl
theorem a26 (ops : Array Oper) (xs : List Nat) (Q : K0) (i : Nat) (r q : Plan) : dPlan P n ops xs Q (.br i r q) f L p = ((match ops.toList[i]? with
 | some o => dGuard n ops o (dOpF (CallQ (!inX xs o) P) P n o) (dPlan P n ops xs Q r) f L p
 | none => False) ∧ dPlan P n ops xs Q q f L p) := by rw [Array.getElem?_toList, dPlan] <;> rfl
theorem a27 (ops : Array Oper) (T : K0 → K0) (Q : K0) (dst : Option Nat) (op : Op) (ty : TypeId) (pos : String) (af : Array Edge) : dGuard n ops ⟨dst, op, ty, pos, af, none⟩ T Q f L p = T Q f L p := rfl
theorem a28 (ops : Array Oper) (T : K0 → K0) (Q : K0) (dst : Option Nat) (op : Op) (ty : TypeId) (pos : String) (af : Array Edge) (j : Nat) : dGuard n ops ⟨dst, op, ty, pos, af, some (j, true)⟩ T Q f L p =
 match guardSlot ops j with
  | none => False
  | some g => match f g with
   | .c (.v (.bool b)) => Gd b (T Q) (upd f g (.c (.v (.bool true)))) Q (put n (upd f g (.c (.v (.bool false)))) dst (.tu [])) L p
   | .tu [] => Q (put n f dst (.tu [])) L p
   | _ => False := rfl
theorem a31 (ops : Array Oper) (T : K0 → K0) (Q : K0) (dst : Option Nat) (op : Op) (ty : TypeId) (pos : String) (af : Array Edge) (j : Nat) : dGuard n ops ⟨dst, op, ty, pos, af, some (j, false)⟩ T Q f L p =
 match guardSlot ops j with
  | none => False
  | some g => match f g with
   | .c (.v (.bool b)) => Gd b Q (put n (upd f g (.c (.v (.bool true)))) dst (.tu [])) (T Q) (upd f g (.c (.v (.bool false)))) L p
   | .tu [] => Q (put n f dst (.tu [])) L p
   | _ => False := by
 rw [dGuard]; simp only [Bool.not_false]
 cases guardSlot ops j with
 | none => rfl
 | some g => cases h : f g with
  | ag _ => simp [h]
  | tu xs => cases xs <;> simp [h]
  | c x => cases x with
   | v y => cases y <;> simp [h, Gd, And.comm]
   | _ => simp [h]
theorem a32 (KA : K0) (fA : Rg) (KB : K0) (fB : Rg) : Gd true KA fA KB fB L p = KA fA L p := by simp [Gd]
theorem a33 (KA : K0) (fA : Rg) (KB : K0) (fB : Rg) : Gd false KA fA KB fB L p = KB fB L p := by simp [Gd]
theorem a29 (ops : Array Oper) (j : Nat) : guardSlot ops j = (ops.toList[j]?).bind (·.dst) := by rw [guardSlot, Array.getElem?_toList]
theorem c0 (k : IntKind) (x : Int) : dOf (.v (.int k x)) = some (.lit (.int k x), some []) := rfl
theorem c1 (x : Bool) : dOf (.v (.bool x)) = some (.lit (.bool x), some []) := rfl
theorem c2 (x : ByteArray) : dOf (.v (.string x)) = some (.lit (.string x), some []) := rfl
theorem c3 : dOf (.v (.slice none 0 0)) = some (.sl 0 [], some []) := rfl
theorem c4 (m : Nat) (ds : List D) (F : Fp) : dOf (.sl m ds F) = some (.sl m ds, F) := rfl
theorem c5 (x : Value) : cellsOf? (.c (.v x)) = some [.v x] := rfl
theorem c6 (m : Nat) (ds : List D) (F : Fp) : cellsOf? (.c (.sl m ds F)) = some [.sl m ds F] := rfl
theorem c7 (i m : Nat) : cellsOf? (.c (.s i m)) = some [.s i m] := rfl
theorem c8 (i m : Nat) : cellsOf? (.c (.p i m)) = some [.p i m] := rfl
theorem c9 (h : FuncId) (a b : List Nat) : cellsOf? (.c (.fn h a b)) = some [.fn h a b] := rfl
theorem c10 (cs : List C) : cellsOf? (.ag cs) = some cs := rfl
theorem c11 (ds : List D) : cellsOf? (.c (.q ds)) = some [.q ds] := rfl
theorem e0 (ds is : List Nat) : ∀ l : List D, kCs ds is (csOf l) = csOf l
 | [] => rfl
 | x :: r => by cases x <;> simp [csOf, cOf, kCs, kC, e0 ds is r]
theorem e1 (i m : Nat) (x : C) : ∀ l : List D, fCs i m x (csOf l) = csOf l
 | [] => rfl
 | y :: r => by cases y <;> simp [csOf, cOf, fCs, fC, e1 i m x r]
theorem e2 (i j : Nat) : ∀ l : List D, renCs i j (csOf l) = csOf l
 | [] => rfl
 | y :: r => by cases y <;> simp [csOf, cOf, renCs, renC, e2 i j r]
theorem e3 : ∀ l : List D, ownsC (csOf l) = none
 | [] => rfl
 | y :: r => by cases y <;> simp [csOf, cOf, ownsC, e3 r]
theorem e4 : ∀ (b : Nat) (l : List D), expC b (csOf l) = csOf l
 | _, [] => rfl
 | b, y :: r => by cases y <;> simp [csOf, cOf, expC, e4 _ r]
theorem e5 : ∀ (b : Nat) (l : List D), expO b (csOf l) = []
 | _, [] => rfl
 | b, y :: r => by cases y <;> simp [csOf, cOf, expO, e5 _ r]
theorem e6 : ∀ (l m : List D), rhoL (csOf l) (csOf m) = []
 | [], _ => by simp [csOf, rhoL]
 | x :: r, [] => by simp [csOf, rhoL]
 | x :: r, y :: t => by cases x <;> cases y <;> simp [csOf, cOf, rhoL, rhoC, e6 r t]
theorem e7 : ∀ (l m : List D), brwL (csOf l) (csOf m) = []
 | [], _ => by simp [csOf, brwL]
 | x :: r, [] => by simp [csOf, brwL]
 | x :: r, y :: t => by cases x <;> cases y <;> simp [csOf, cOf, brwL, brwC, e7 r t]
theorem e8 : ∀ l : List D, flatL (csOf l) = true
 | [] => rfl
 | y :: r => by cases y <;> simp [csOf, cOf, flatL, flatC, e8 r]
theorem e9 : ∀ l : List D, fpL (csOf l) = []
 | [] => rfl
 | y :: r => by cases y <;> simp [csOf, cOf, fpL, fpC, e9 r]
theorem e10 : ∀ l : List D, (csOf l).length = l.length
 | [] => rfl
 | y :: r => by simp [csOf, e10 r]
theorem e11 (ρ : List (Nat × Nat)) : ∀ l : List D, leL ρ L (csOf l) (csOf l) = True
 | [] => by simp [csOf, leL]
 | x :: r => by
  cases x with
  | lit v => simp only [csOf, cOf, leL, e11 ρ r, and_true]; cases v <;> simp [leC]
  | sl m ds => simp [csOf, cOf, leL, leC, e11 ρ r]
theorem good_cOf (x : D) : goodC (cOf x) = true := by cases x <;> rfl
theorem e12 : ∀ l : List D, (csOf l).all goodC = true
 | [] => rfl
 | y :: r => by simp only [csOf, List.all_cons, good_cOf, e12 r, Bool.and_self]
def fpD : List D → Fp
 | [] => some []
 | .lit _ :: r => fpD r
 | .sl .. :: _ => none
end
end Go.Dv
namespace Go.Dv
open Go
open Go.Vc (D TS sizeTS splice dstsOps dsts inX zeroOk inN tyS elemS fieldOff zeroC placesS lenK convBS guardSlot Plan okV shrI xorI andI)
theorem z0 : type_of% (And.intro @cv0 (And.intro @cv1 (And.intro @cv2 (And.intro @cv3 (And.intro @cv4 (And.intro @cv5 (And.intro @cv6 (And.intro @cv7 (And.intro @cv8 (And.intro @cv9 (And.intro @a0 (And.intro @a1 (And.intro @a2 (And.intro @a3 (And.intro @a4 (And.intro @a5 (And.intro @a6 (And.intro @a7 (And.intro @a8 (And.intro @a9 (And.intro @a10 (And.intro @a12 (And.intro @a13 @a14))))))))))))))))))))))) := And.intro @cv0 (And.intro @cv1 (And.intro @cv2 (And.intro @cv3 (And.intro @cv4 (And.intro @cv5 (And.intro @cv6 (And.intro @cv7 (And.intro @cv8 (And.intro @cv9 (And.intro @a0 (And.intro @a1 (And.intro @a2 (And.intro @a3 (And.intro @a4 (And.intro @a5 (And.intro @a6 (And.intro @a7 (And.intro @a8 (And.intro @a9 (And.intro @a10 (And.intro @a12 (And.intro @a13 @a14))))))))))))))))))))))
theorem z1 : type_of% (And.intro @a15 (And.intro @a16 (And.intro @a17 (And.intro @a18 (And.intro @a19 (And.intro @a20 (And.intro @a21 (And.intro @a20n (And.intro @a21n (And.intro @a20m (And.intro @a21m (And.intro @a22 (And.intro @a23 (And.intro @a24 (And.intro @a25 (And.intro @a26 (And.intro @a27 (And.intro @a28 (And.intro @a31 (And.intro @a32 (And.intro @a33 (And.intro @a29 (And.intro @c0 @c1))))))))))))))))))))))) := And.intro @a15 (And.intro @a16 (And.intro @a17 (And.intro @a18 (And.intro @a19 (And.intro @a20 (And.intro @a21 (And.intro @a20n (And.intro @a21n (And.intro @a20m (And.intro @a21m (And.intro @a22 (And.intro @a23 (And.intro @a24 (And.intro @a25 (And.intro @a26 (And.intro @a27 (And.intro @a28 (And.intro @a31 (And.intro @a32 (And.intro @a33 (And.intro @a29 (And.intro @c0 @c1))))))))))))))))))))))
theorem z2 : type_of% (And.intro @c2 (And.intro @c3 (And.intro @c4 (And.intro @c5 (And.intro @c6 (And.intro @c7 (And.intro @c8 (And.intro @c9 (And.intro @c10 (And.intro @c11 (And.intro @e0 (And.intro @e1 (And.intro @e2 (And.intro @e3 (And.intro @e4 (And.intro @e5 (And.intro @e6 (And.intro @e7 (And.intro @e8 (And.intro @e9 (And.intro @e10 (And.intro @e11 (And.intro @e12 @pu_add))))))))))))))))))))))) := And.intro @c2 (And.intro @c3 (And.intro @c4 (And.intro @c5 (And.intro @c6 (And.intro @c7 (And.intro @c8 (And.intro @c9 (And.intro @c10 (And.intro @c11 (And.intro @e0 (And.intro @e1 (And.intro @e2 (And.intro @e3 (And.intro @e4 (And.intro @e5 (And.intro @e6 (And.intro @e7 (And.intro @e8 (And.intro @e9 (And.intro @e10 (And.intro @e11 (And.intro @e12 @pu_add))))))))))))))))))))))
theorem z3 : type_of% (And.intro @pu_sub (And.intro @pu_mul (And.intro @pu_lss (And.intro @pu_leq (And.intro @pu_gtr (And.intro @pu_geq (And.intro @pu_eql (And.intro @pu_neq (And.intro @pu_seql (And.intro @pu_sneq (And.intro @pu_slss (And.intro @pu_sgtr (And.intro @pu_sadd (And.intro @pu_beql (And.intro @pu_bneq (And.intro @pu_not (And.intro @pu_neg (And.intro @pu_rem (And.intro @pu_quo (And.intro @pu_shr (And.intro @pu_xor (And.intro @pu_and (And.intro @pu_cint @pu_cut))))))))))))))))))))))) := And.intro @pu_sub (And.intro @pu_mul (And.intro @pu_lss (And.intro @pu_leq (And.intro @pu_gtr (And.intro @pu_geq (And.intro @pu_eql (And.intro @pu_neq (And.intro @pu_seql (And.intro @pu_sneq (And.intro @pu_slss (And.intro @pu_sgtr (And.intro @pu_sadd (And.intro @pu_beql (And.intro @pu_bneq (And.intro @pu_not (And.intro @pu_neg (And.intro @pu_rem (And.intro @pu_quo (And.intro @pu_shr (And.intro @pu_xor (And.intro @pu_and (And.intro @pu_cint @pu_cut))))))))))))))))))))))
theorem z4 : type_of% (And.intro @pu_from (And.intro @pu_to (And.intro @dOp.eq_1 (And.intro @dOpF.eq_1 (And.intro @slOf.eq_1 (And.intro @slOf.eq_2 (And.intro @appOk.eq_1 (And.intro @noSelf.eq_1 (And.intro @noSelf.eq_2 (And.intro @noSelf.eq_3 (And.intro @mg.eq_1 (And.intro @mg.eq_2 (And.intro @mg.eq_3 (And.intro @mgC.eq_1 (And.intro @mgC.eq_2 (And.intro @selfZ.eq_1 (And.intro @selfZ.eq_2 (And.intro @create.eq_1 (And.intro @create.eq_2 (And.intro @takeD.eq_1 (And.intro @takeD.eq_2 (And.intro @takeD.eq_3 (And.intro @kLoad.eq_1 @dLoad.eq_1))))))))))))))))))))))) := And.intro @pu_from (And.intro @pu_to (And.intro @dOp.eq_1 (And.intro @dOpF.eq_1 (And.intro @slOf.eq_1 (And.intro @slOf.eq_2 (And.intro @appOk.eq_1 (And.intro @noSelf.eq_1 (And.intro @noSelf.eq_2 (And.intro @noSelf.eq_3 (And.intro @mg.eq_1 (And.intro @mg.eq_2 (And.intro @mg.eq_3 (And.intro @mgC.eq_1 (And.intro @mgC.eq_2 (And.intro @selfZ.eq_1 (And.intro @selfZ.eq_2 (And.intro @create.eq_1 (And.intro @create.eq_2 (And.intro @takeD.eq_1 (And.intro @takeD.eq_2 (And.intro @takeD.eq_3 (And.intro @kLoad.eq_1 @dLoad.eq_1))))))))))))))))))))))
theorem z5 : type_of% (And.intro @dLoad.eq_2 (And.intro @dLoad.eq_3 (And.intro @apF.eq_1 (And.intro @apF.eq_2 (And.intro @setF.eq_1 (And.intro @setF.eq_2 (And.intro @dStore.eq_1 (And.intro @newsOf.eq_1 (And.intro @newsOf.eq_2 (And.intro @newsOf.eq_3 (And.intro @newsOf.eq_4 (And.intro @newsOf.eq_5 (And.intro @dAppend.eq_1 (And.intro @parts.eq_1 (And.intro @zerosD.eq_1 (And.intro @dBuildS.eq_1 (And.intro @dIndexAddr.eq_1 (And.intro @dIndexAddr.eq_2 (And.intro @dLen.eq_1 (And.intro @dLen.eq_2 (And.intro @dLen.eq_3 (And.intro @dLen.eq_4 (And.intro @dLen.eq_5 @vals?.eq_1))))))))))))))))))))))) := And.intro @dLoad.eq_2 (And.intro @dLoad.eq_3 (And.intro @apF.eq_1 (And.intro @apF.eq_2 (And.intro @setF.eq_1 (And.intro @setF.eq_2 (And.intro @dStore.eq_1 (And.intro @newsOf.eq_1 (And.intro @newsOf.eq_2 (And.intro @newsOf.eq_3 (And.intro @newsOf.eq_4 (And.intro @newsOf.eq_5 (And.intro @dAppend.eq_1 (And.intro @parts.eq_1 (And.intro @zerosD.eq_1 (And.intro @dBuildS.eq_1 (And.intro @dIndexAddr.eq_1 (And.intro @dIndexAddr.eq_2 (And.intro @dLen.eq_1 (And.intro @dLen.eq_2 (And.intro @dLen.eq_3 (And.intro @dLen.eq_4 (And.intro @dLen.eq_5 @vals?.eq_1))))))))))))))))))))))
theorem z6 : type_of% (And.intro @vals?.eq_2 (And.intro @vals?.eq_3 (And.intro @plain?.eq_1 (And.intro @plain?.eq_2 (And.intro @plain?.eq_3 (And.intro @dConv.eq_1 (And.intro @dConv.eq_2 (And.intro @dConv.eq_3 (And.intro @dConv.eq_4 (And.intro @comp?.eq_1 (And.intro @comp?.eq_2 (And.intro @ptrIds.eq_1 (And.intro @ptrIds.eq_2 (And.intro @ptrIds.eq_3 (And.intro @optV.eq_1 (And.intro @optV.eq_2 (And.intro @optV.eq_3 (And.intro @loB.eq_1 (And.intro @loB.eq_2 (And.intro @loB.eq_3 (And.intro @hiB.eq_1 (And.intro @hiB.eq_2 (And.intro @hiB.eq_3 @dCut.eq_1))))))))))))))))))))))) := And.intro @vals?.eq_2 (And.intro @vals?.eq_3 (And.intro @plain?.eq_1 (And.intro @plain?.eq_2 (And.intro @plain?.eq_3 (And.intro @dConv.eq_1 (And.intro @dConv.eq_2 (And.intro @dConv.eq_3 (And.intro @dConv.eq_4 (And.intro @comp?.eq_1 (And.intro @comp?.eq_2 (And.intro @ptrIds.eq_1 (And.intro @ptrIds.eq_2 (And.intro @ptrIds.eq_3 (And.intro @optV.eq_1 (And.intro @optV.eq_2 (And.intro @optV.eq_3 (And.intro @loB.eq_1 (And.intro @loB.eq_2 (And.intro @loB.eq_3 (And.intro @hiB.eq_1 (And.intro @hiB.eq_2 (And.intro @hiB.eq_3 @dCut.eq_1))))))))))))))))))))))
theorem z7 : type_of% (And.intro @dSlice.eq_1 (And.intro @dSlice.eq_2 (And.intro @dSlice.eq_3 (And.intro @mkS.eq_1 (And.intro @mkS.eq_2 (And.intro @mkS.eq_3 (And.intro @mkS.eq_4 (And.intro @fillC.eq_1 (And.intro @fillC.eq_2 (And.intro @joinF.eq_1 (And.intro @joinF.eq_2 (And.intro @csOf.eq_1 (And.intro @csOf.eq_2 (And.intro @cOf.eq_1 (And.intro @cOf.eq_2 (And.intro @dsOf.eq_1 (And.intro @dsOf.eq_2 (And.intro @tell.eq_1 (And.intro @tell.eq_2 (And.intro @fC.eq_1 (And.intro @fC.eq_2 (And.intro @fC.eq_3 (And.intro @fC.eq_4 @fCs.eq_1))))))))))))))))))))))) := And.intro @dSlice.eq_1 (And.intro @dSlice.eq_2 (And.intro @dSlice.eq_3 (And.intro @mkS.eq_1 (And.intro @mkS.eq_2 (And.intro @mkS.eq_3 (And.intro @mkS.eq_4 (And.intro @fillC.eq_1 (And.intro @fillC.eq_2 (And.intro @joinF.eq_1 (And.intro @joinF.eq_2 (And.intro @csOf.eq_1 (And.intro @csOf.eq_2 (And.intro @cOf.eq_1 (And.intro @cOf.eq_2 (And.intro @dsOf.eq_1 (And.intro @dsOf.eq_2 (And.intro @tell.eq_1 (And.intro @tell.eq_2 (And.intro @fC.eq_1 (And.intro @fC.eq_2 (And.intro @fC.eq_3 (And.intro @fC.eq_4 @fCs.eq_1))))))))))))))))))))))
theorem z8 : type_of% (And.intro @fCs.eq_2 (And.intro @fTs.eq_1 (And.intro @fTs.eq_2 (And.intro @fS.eq_1 (And.intro @fS.eq_2 (And.intro @fS.eq_3 (And.intro @fO.eq_1 (And.intro @fO.eq_2 (And.intro @fL.eq_1 (And.intro @fL.eq_2 (And.intro @frz.eq_1 (And.intro @ownsC.eq_1 (And.intro @ownsC.eq_2 (And.intro @ownsC.eq_3 (And.intro @outC.eq_1 (And.intro @outC.eq_2 (And.intro @goodC.eq_1 (And.intro @goodC.eq_2 (And.intro @goodC.eq_3 (And.intro @goodC.eq_4 (And.intro @kC.eq_1 (And.intro @kC.eq_2 (And.intro @kC.eq_3 @kC.eq_4))))))))))))))))))))))) := And.intro @fCs.eq_2 (And.intro @fTs.eq_1 (And.intro @fTs.eq_2 (And.intro @fS.eq_1 (And.intro @fS.eq_2 (And.intro @fS.eq_3 (And.intro @fO.eq_1 (And.intro @fO.eq_2 (And.intro @fL.eq_1 (And.intro @fL.eq_2 (And.intro @frz.eq_1 (And.intro @ownsC.eq_1 (And.intro @ownsC.eq_2 (And.intro @ownsC.eq_3 (And.intro @outC.eq_1 (And.intro @outC.eq_2 (And.intro @goodC.eq_1 (And.intro @goodC.eq_2 (And.intro @goodC.eq_3 (And.intro @goodC.eq_4 (And.intro @kC.eq_1 (And.intro @kC.eq_2 (And.intro @kC.eq_3 @kC.eq_4))))))))))))))))))))))
theorem z9 : type_of% (And.intro @kCs.eq_1 (And.intro @kCs.eq_2 (And.intro @kTs.eq_1 (And.intro @kTs.eq_2 (And.intro @kS.eq_1 (And.intro @kS.eq_2 (And.intro @kS.eq_3 (And.intro @kO.eq_1 (And.intro @kO.eq_2 (And.intro @kL.eq_1 (And.intro @kL.eq_2 (And.intro @hit.eq_1 (And.intro @hitL.eq_1 (And.intro @hitL.eq_2 (And.intro @fam.eq_1 (And.intro @look.eq_1 (And.intro @look.eq_2 (And.intro @rem.eq_1 (And.intro @rem.eq_2 (And.intro @setL.eq_1 (And.intro @put.eq_1 (And.intro @put.eq_2 (And.intro @ev.eq_1 @ev.eq_2))))))))))))))))))))))) := And.intro @kCs.eq_1 (And.intro @kCs.eq_2 (And.intro @kTs.eq_1 (And.intro @kTs.eq_2 (And.intro @kS.eq_1 (And.intro @kS.eq_2 (And.intro @kS.eq_3 (And.intro @kO.eq_1 (And.intro @kO.eq_2 (And.intro @kL.eq_1 (And.intro @kL.eq_2 (And.intro @hit.eq_1 (And.intro @hitL.eq_1 (And.intro @hitL.eq_2 (And.intro @fam.eq_1 (And.intro @look.eq_1 (And.intro @look.eq_2 (And.intro @rem.eq_1 (And.intro @rem.eq_2 (And.intro @setL.eq_1 (And.intro @put.eq_1 (And.intro @put.eq_2 (And.intro @ev.eq_1 @ev.eq_2))))))))))))))))))))))
theorem z10 : type_of% (And.intro @ev.eq_3 (And.intro @ev.eq_4 (And.intro @expC.eq_1 (And.intro @expC.eq_2 (And.intro @expC.eq_3 (And.intro @expO.eq_1 (And.intro @expO.eq_2 (And.intro @expO.eq_3 (And.intro @expT.eq_1 (And.intro @expT.eq_2 (And.intro @cellsS.eq_1 (And.intro @cellsS.eq_2 (And.intro @cellsS.eq_3 (And.intro @expS.eq_1 (And.intro @expS.eq_2 (And.intro @expS.eq_3 (And.intro @expA.eq_1 (And.intro @expA.eq_2 (And.intro @expAO.eq_1 (And.intro @expAO.eq_2 (And.intro @expB.eq_1 (And.intro @expB.eq_2 (And.intro @lent.eq_1 @back.eq_1))))))))))))))))))))))) := And.intro @ev.eq_3 (And.intro @ev.eq_4 (And.intro @expC.eq_1 (And.intro @expC.eq_2 (And.intro @expC.eq_3 (And.intro @expO.eq_1 (And.intro @expO.eq_2 (And.intro @expO.eq_3 (And.intro @expT.eq_1 (And.intro @expT.eq_2 (And.intro @cellsS.eq_1 (And.intro @cellsS.eq_2 (And.intro @cellsS.eq_3 (And.intro @expS.eq_1 (And.intro @expS.eq_2 (And.intro @expS.eq_3 (And.intro @expA.eq_1 (And.intro @expA.eq_2 (And.intro @expAO.eq_1 (And.intro @expAO.eq_2 (And.intro @expB.eq_1 (And.intro @expB.eq_2 (And.intro @lent.eq_1 @back.eq_1))))))))))))))))))))))
theorem z11 : type_of% (And.intro @fpC.eq_1 (And.intro @fpC.eq_2 (And.intro @fpC.eq_3 (And.intro @fpL.eq_1 (And.intro @fpL.eq_2 (And.intro @fpB.eq_1 (And.intro @fpB.eq_2 (And.intro @fps.eq_1 (And.intro @flatC.eq_1 (And.intro @flatC.eq_2 (And.intro @flatC.eq_3 (And.intro @flatC.eq_4 (And.intro @flatC.eq_5 (And.intro @flatC.eq_6 (And.intro @flatL.eq_1 (And.intro @flatL.eq_2 (And.intro @flatB.eq_1 (And.intro @flatB.eq_2 (And.intro @flat.eq_1 (And.intro @lk.eq_1 (And.intro @lk.eq_2 (And.intro @zipN.eq_1 (And.intro @zipN.eq_2 @rhoC.eq_1))))))))))))))))))))))) := And.intro @fpC.eq_1 (And.intro @fpC.eq_2 (And.intro @fpC.eq_3 (And.intro @fpL.eq_1 (And.intro @fpL.eq_2 (And.intro @fpB.eq_1 (And.intro @fpB.eq_2 (And.intro @fps.eq_1 (And.intro @flatC.eq_1 (And.intro @flatC.eq_2 (And.intro @flatC.eq_3 (And.intro @flatC.eq_4 (And.intro @flatC.eq_5 (And.intro @flatC.eq_6 (And.intro @flatL.eq_1 (And.intro @flatL.eq_2 (And.intro @flatB.eq_1 (And.intro @flatB.eq_2 (And.intro @flat.eq_1 (And.intro @lk.eq_1 (And.intro @lk.eq_2 (And.intro @zipN.eq_1 (And.intro @zipN.eq_2 @rhoC.eq_1))))))))))))))))))))))
theorem z12 : type_of% (And.intro @rhoC.eq_2 (And.intro @rhoC.eq_3 (And.intro @rhoC.eq_4 (And.intro @rhoL.eq_1 (And.intro @rhoL.eq_2 (And.intro @rhoS.eq_1 (And.intro @rhoS.eq_2 (And.intro @rhoS.eq_3 (And.intro @rhoA.eq_1 (And.intro @rhoA.eq_2 (And.intro @rhoB.eq_1 (And.intro @rhoB.eq_2 (And.intro @rhoB.eq_3 (And.intro @inP.eq_1 (And.intro @inP.eq_2 (And.intro @nubP.eq_1 (And.intro @nubP.eq_2 (And.intro @rho.eq_1 (And.intro @lePs.eq_1 (And.intro @lePs.eq_2 (And.intro @lePs.eq_3 (And.intro @leC.eq_1 (And.intro @leC.eq_2 @leC.eq_3))))))))))))))))))))))) := And.intro @rhoC.eq_2 (And.intro @rhoC.eq_3 (And.intro @rhoC.eq_4 (And.intro @rhoL.eq_1 (And.intro @rhoL.eq_2 (And.intro @rhoS.eq_1 (And.intro @rhoS.eq_2 (And.intro @rhoS.eq_3 (And.intro @rhoA.eq_1 (And.intro @rhoA.eq_2 (And.intro @rhoB.eq_1 (And.intro @rhoB.eq_2 (And.intro @rhoB.eq_3 (And.intro @inP.eq_1 (And.intro @inP.eq_2 (And.intro @nubP.eq_1 (And.intro @nubP.eq_2 (And.intro @rho.eq_1 (And.intro @lePs.eq_1 (And.intro @lePs.eq_2 (And.intro @lePs.eq_3 (And.intro @leC.eq_1 (And.intro @leC.eq_2 @leC.eq_3))))))))))))))))))))))
theorem z13 : type_of% (And.intro @leC.eq_4 (And.intro @leC.eq_5 (And.intro @leC.eq_6 (And.intro @leC.eq_7 (And.intro @leC.eq_8 (And.intro @leC.eq_9 (And.intro @leC.eq_10 (And.intro @leC.eq_11 (And.intro @leC.eq_12 (And.intro @leL.eq_1 (And.intro @leL.eq_2 (And.intro @leL.eq_3 (And.intro @leS.eq_1 (And.intro @leS.eq_2 (And.intro @leS.eq_3 (And.intro @leA.eq_1 (And.intro @leA.eq_2 (And.intro @leA.eq_3 (And.intro @leO.eq_1 (And.intro @leO.eq_2 (And.intro @leO.eq_3 (And.intro @leB.eq_1 (And.intro @leB.eq_2 @leB.eq_3))))))))))))))))))))))) := And.intro @leC.eq_4 (And.intro @leC.eq_5 (And.intro @leC.eq_6 (And.intro @leC.eq_7 (And.intro @leC.eq_8 (And.intro @leC.eq_9 (And.intro @leC.eq_10 (And.intro @leC.eq_11 (And.intro @leC.eq_12 (And.intro @leL.eq_1 (And.intro @leL.eq_2 (And.intro @leL.eq_3 (And.intro @leS.eq_1 (And.intro @leS.eq_2 (And.intro @leS.eq_3 (And.intro @leA.eq_1 (And.intro @leA.eq_2 (And.intro @leA.eq_3 (And.intro @leO.eq_1 (And.intro @leO.eq_2 (And.intro @leO.eq_3 (And.intro @leB.eq_1 (And.intro @leB.eq_2 @leB.eq_3))))))))))))))))))))))
theorem z14 : type_of% (And.intro @brwC.eq_1 (And.intro @brwC.eq_2 (And.intro @brwL.eq_1 (And.intro @brwL.eq_2 (And.intro @brwS.eq_1 (And.intro @brwS.eq_2 (And.intro @brwS.eq_3 (And.intro @brwA.eq_1 (And.intro @brwA.eq_2 (And.intro @brwB.eq_1 (And.intro @brwB.eq_2 (And.intro @brwB.eq_3 (And.intro @brw.eq_1 (And.intro @nodupB.eq_1 (And.intro @nodupB.eq_2 (And.intro @disjB.eq_1 (And.intro @disjB.eq_2 (And.intro @toldC.eq_1 (And.intro @toldC.eq_2 (And.intro @toldC.eq_3 (And.intro @toldL.eq_1 (And.intro @toldL.eq_2 (And.intro @toldB.eq_1 @toldB.eq_2))))))))))))))))))))))) := And.intro @brwC.eq_1 (And.intro @brwC.eq_2 (And.intro @brwL.eq_1 (And.intro @brwL.eq_2 (And.intro @brwS.eq_1 (And.intro @brwS.eq_2 (And.intro @brwS.eq_3 (And.intro @brwA.eq_1 (And.intro @brwA.eq_2 (And.intro @brwB.eq_1 (And.intro @brwB.eq_2 (And.intro @brwB.eq_3 (And.intro @brw.eq_1 (And.intro @nodupB.eq_1 (And.intro @nodupB.eq_2 (And.intro @disjB.eq_1 (And.intro @disjB.eq_2 (And.intro @toldC.eq_1 (And.intro @toldC.eq_2 (And.intro @toldC.eq_3 (And.intro @toldL.eq_1 (And.intro @toldL.eq_2 (And.intro @toldB.eq_1 @toldB.eq_2))))))))))))))))))))))
theorem z15 : type_of% (And.intro @used.eq_1 (And.intro @used.eq_2 (And.intro @nk.eq_1 (And.intro @strs.eq_1 (And.intro @strs.eq_2 (And.intro @addP.eq_1 (And.intro @addP.eq_2 (And.intro @after.eq_1 (And.intro @famOk.eq_1 (And.intro @famOk.eq_2 (And.intro @renN.eq_1 (And.intro @renN.eq_2 (And.intro @renC.eq_1 (And.intro @renC.eq_2 (And.intro @renC.eq_3 (And.intro @renC.eq_4 (And.intro @renCs.eq_1 (And.intro @renCs.eq_2 (And.intro @renTs.eq_1 (And.intro @renTs.eq_2 (And.intro @renS.eq_1 (And.intro @renS.eq_2 (And.intro @renS.eq_3 @renO.eq_1))))))))))))))))))))))) := And.intro @used.eq_1 (And.intro @used.eq_2 (And.intro @nk.eq_1 (And.intro @strs.eq_1 (And.intro @strs.eq_2 (And.intro @addP.eq_1 (And.intro @addP.eq_2 (And.intro @after.eq_1 (And.intro @famOk.eq_1 (And.intro @famOk.eq_2 (And.intro @renN.eq_1 (And.intro @renN.eq_2 (And.intro @renC.eq_1 (And.intro @renC.eq_2 (And.intro @renC.eq_3 (And.intro @renC.eq_4 (And.intro @renCs.eq_1 (And.intro @renCs.eq_2 (And.intro @renTs.eq_1 (And.intro @renTs.eq_2 (And.intro @renS.eq_1 (And.intro @renS.eq_2 (And.intro @renS.eq_3 @renO.eq_1))))))))))))))))))))))
theorem z16 : type_of% (And.intro @renO.eq_2 (And.intro @renL.eq_1 (And.intro @renL.eq_2 (And.intro @resS.eq_1 (And.intro @resS.eq_2 (And.intro @resAll.eq_1 (And.intro @resAll.eq_2 (And.intro @ownsS.eq_1 (And.intro @ownsS.eq_2 (And.intro @ownsS.eq_3 (And.intro @fSs.eq_1 (And.intro @fSs.eq_2 (And.intro @outS.eq_1 (And.intro @outS.eq_2 (And.intro @wrapS.eq_1 (And.intro @wrapS.eq_2 (And.intro @wrapS.compsS.eq_1 (And.intro @wrapS.compsS.eq_2 (And.intro @wrapS.compsS.eq_3 (And.intro @wrapS.compsS.eq_4 (And.intro @idp.eq_1 (And.intro @idp.eq_2 (And.intro @leT.eq_1 @leT.eq_2))))))))))))))))))))))) := And.intro @renO.eq_2 (And.intro @renL.eq_1 (And.intro @renL.eq_2 (And.intro @resS.eq_1 (And.intro @resS.eq_2 (And.intro @resAll.eq_1 (And.intro @resAll.eq_2 (And.intro @ownsS.eq_1 (And.intro @ownsS.eq_2 (And.intro @ownsS.eq_3 (And.intro @fSs.eq_1 (And.intro @fSs.eq_2 (And.intro @outS.eq_1 (And.intro @outS.eq_2 (And.intro @wrapS.eq_1 (And.intro @wrapS.eq_2 (And.intro @wrapS.compsS.eq_1 (And.intro @wrapS.compsS.eq_2 (And.intro @wrapS.compsS.eq_3 (And.intro @wrapS.compsS.eq_4 (And.intro @idp.eq_1 (And.intro @idp.eq_2 (And.intro @leT.eq_1 @leT.eq_2))))))))))))))))))))))
theorem z17 : type_of% (And.intro @leT.eq_3 (And.intro @leR.eq_1 (And.intro @leR.eq_2 (And.intro @leR.eq_3 (And.intro @leR.eq_4 (And.intro @rhoT.eq_1 (And.intro @rhoT.eq_2 (And.intro @rhoR.eq_1 (And.intro @rhoR.eq_2 (And.intro @rhoR.eq_3 (And.intro @rhoR.eq_4 (And.intro @rhoE.eq_1 (And.intro @brwT.eq_1 (And.intro @brwT.eq_2 (And.intro @brwR.eq_1 (And.intro @brwR.eq_2 (And.intro @brwR.eq_3 (And.intro @brwR.eq_4 (And.intro @brwE.eq_1 (And.intro @inPool.eq_1 (And.intro @inPool.eq_2 (And.intro @frzL.eq_1 (And.intro @frzL.eq_2 @dRet.eq_1))))))))))))))))))))))) := And.intro @leT.eq_3 (And.intro @leR.eq_1 (And.intro @leR.eq_2 (And.intro @leR.eq_3 (And.intro @leR.eq_4 (And.intro @rhoT.eq_1 (And.intro @rhoT.eq_2 (And.intro @rhoR.eq_1 (And.intro @rhoR.eq_2 (And.intro @rhoR.eq_3 (And.intro @rhoR.eq_4 (And.intro @rhoE.eq_1 (And.intro @brwT.eq_1 (And.intro @brwT.eq_2 (And.intro @brwR.eq_1 (And.intro @brwR.eq_2 (And.intro @brwR.eq_3 (And.intro @brwR.eq_4 (And.intro @brwE.eq_1 (And.intro @inPool.eq_1 (And.intro @inPool.eq_2 (And.intro @frzL.eq_1 (And.intro @frzL.eq_2 @dRet.eq_1))))))))))))))))))))))
theorem z18 : type_of% (And.intro @dRetN.eq_1 (And.intro @dRetM.eq_1 (And.intro @ownsM.eq_1 (And.intro @ownsM.eq_2 (And.intro @ownsM.eq_3 (And.intro @ownsM.eq_4 (And.intro @outM.eq_1 (And.intro @outM.eq_2 (And.intro @plainC.eq_1 (And.intro @plainC.eq_2 (And.intro @plainC.eq_3 (And.intro @plainL.eq_1 (And.intro @plainL.eq_2 (And.intro @dMake.eq_1 (And.intro @dMake.eq_2 (And.intro @dMake.eq_3 (And.intro @CallK.eq_1 (And.intro @fpD.eq_1 (And.intro @fpD.eq_2 (And.intro @fpD.eq_3 (And.intro @pln.eq_1 (And.intro @pln.eq_2 (And.intro @Go.Vc.sizeTS.eq_1 @Go.Vc.sizeTS.eq_2))))))))))))))))))))))) := And.intro @dRetN.eq_1 (And.intro @dRetM.eq_1 (And.intro @ownsM.eq_1 (And.intro @ownsM.eq_2 (And.intro @ownsM.eq_3 (And.intro @ownsM.eq_4 (And.intro @outM.eq_1 (And.intro @outM.eq_2 (And.intro @plainC.eq_1 (And.intro @plainC.eq_2 (And.intro @plainC.eq_3 (And.intro @plainL.eq_1 (And.intro @plainL.eq_2 (And.intro @dMake.eq_1 (And.intro @dMake.eq_2 (And.intro @dMake.eq_3 (And.intro @CallK.eq_1 (And.intro @fpD.eq_1 (And.intro @fpD.eq_2 (And.intro @fpD.eq_3 (And.intro @pln.eq_1 (And.intro @pln.eq_2 (And.intro @Go.Vc.sizeTS.eq_1 @Go.Vc.sizeTS.eq_2))))))))))))))))))))))
theorem z19 : type_of% (And.intro @Go.Vc.sizeTS.eq_3 (And.intro @Go.Vc.splice.eq_1 (And.intro @Go.Vc.dstsOps.eq_1 (And.intro @Go.Vc.dstsOps.eq_2 (And.intro @Go.Vc.dsts.eq_1 (And.intro @Go.Vc.dsts.eq_2 (And.intro @Go.Vc.dsts.eq_3 (And.intro @Go.Vc.dsts.eq_4 (And.intro @Go.Vc.dsts.eq_5 (And.intro @Go.Vc.dsts.eq_6 (And.intro @Go.Vc.dsts.eq_7 (And.intro @Go.Vc.inX.eq_1 (And.intro @Go.Vc.zeroOk.eq_1 (And.intro @Go.Vc.inN.eq_1 @Go.Vc.inN.eq_2)))))))))))))) := And.intro @Go.Vc.sizeTS.eq_3 (And.intro @Go.Vc.splice.eq_1 (And.intro @Go.Vc.dstsOps.eq_1 (And.intro @Go.Vc.dstsOps.eq_2 (And.intro @Go.Vc.dsts.eq_1 (And.intro @Go.Vc.dsts.eq_2 (And.intro @Go.Vc.dsts.eq_3 (And.intro @Go.Vc.dsts.eq_4 (And.intro @Go.Vc.dsts.eq_5 (And.intro @Go.Vc.dsts.eq_6 (And.intro @Go.Vc.dsts.eq_7 (And.intro @Go.Vc.inX.eq_1 (And.intro @Go.Vc.zeroOk.eq_1 (And.intro @Go.Vc.inN.eq_1 @Go.Vc.inN.eq_2)))))))))))))
end Go.Dv
namespace Go.Dv
open Go Go.RowKit
open Go.Vc (okV Plan)
variable [Out]
def dLoop0 (ws : List Nat) (body : KE → K0) (K : KE) : K0 := fun f L p0 => ∃ (L1 : Ob) (p1 : Po) (I : Rg → Ob → Po → Prop) (μ : Rg → Ob → Po → Nat), SubO L1 L ∧ PoSub p0 p1 ∧ I (mixR ws f f) L1 p1 ∧
 ((∀ g L2 p2, I (mixR ws f g) L2 p2 → body (fun e f' L' p' => match e with
   | .normal => ∃ L3 p3, SubO L3 L' ∧ PoSub p' p3 ∧ I (mixR ws f f') L3 p3 ∧ μ (mixR ws f f') L3 p3 < μ (mixR ws f g) L2 p2
   | e => K e f' L' p') (mixR ws f g) L2 p2) ∨
  (∀ g L2 p2, I (mixR ws f g) L2 p2 → body (fun e f' L' p' => match e with
   | .normal => ∃ hs : List Gh, ghs ws hs (fun f' L' => ∃ L3 p3, SubO L3 L' ∧ PoSub p' p3 ∧ I (mixR ws f f') L3 p3 ∧ μ (mixR ws f f') L3 p3 < μ (mixR ws f g) L2 p2) f' L'
   | e => K e f' L' p') (mixR ws f g) L2 p2))
section
variable {ws : List Nat} {body : KE → K0} {K : KE} {f : Rg} {L : Ob} {p : Po}
theorem dLoop.gh (gs : List Gh) (h : ghs ws gs (fun f L => dLoop0 ws body K f L p) f L) : dLoop ws body K f L p := ⟨gs, h⟩
theorem dLoop0.intro (I : Rg → Ob → Po → Prop) (μ : Rg → Ob → Po → Nat) (L1 : Ob) (p1 : Po) (h0 : SubO L1 L ∧ PoSub p p1 ∧ I (mixR ws f f) L1 p1)
 (h1 : ∀ g L2 p2, I (mixR ws f g) L2 p2 → body (fun e f' L' p' => match e with
   | .normal => ∃ L3 p3, SubO L3 L' ∧ PoSub p' p3 ∧ I (mixR ws f f') L3 p3 ∧ μ (mixR ws f f') L3 p3 < μ (mixR ws f g) L2 p2
   | e => K e f' L' p') (mixR ws f g) L2 p2) : dLoop0 ws body K f L p := ⟨L1, p1, I, μ, h0.1, h0.2.1, h0.2.2, .inl h1⟩
theorem dLoop0.introR (I : Rg → Ob → Po → Prop) (μ : Rg → Ob → Po → Nat) (L1 : Ob) (p1 : Po) (h0 : SubO L1 L ∧ PoSub p p1 ∧ I (mixR ws f f) L1 p1)
 (h1 : ∀ g L2 p2, I (mixR ws f g) L2 p2 → body (fun e f' L' p' => match e with
   | .normal => ∃ hs : List Gh, ghs ws hs (fun f' L' => ∃ L3 p3, SubO L3 L' ∧ PoSub p' p3 ∧ I (mixR ws f f') L3 p3 ∧ μ (mixR ws f f') L3 p3 < μ (mixR ws f g) L2 p2) f' L'
   | e => K e f' L' p') (mixR ws f g) L2 p2) : dLoop0 ws body K f L p := ⟨L1, p1, I, μ, h0.1, h0.2.1, h0.2.2, .inr h1⟩
theorem dLoop.intro (I : Rg → Ob → Po → Prop) (μ : Rg → Ob → Po → Nat) (L1 : Ob) (p1 : Po) (h0 : SubO L1 L ∧ PoSub p p1 ∧ I (mixR ws f f) L1 p1)
 (h1 : ∀ g L2 p2, I (mixR ws f g) L2 p2 → body (fun e f' L' p' => match e with
   | .normal => ∃ L3 p3, SubO L3 L' ∧ PoSub p' p3 ∧ I (mixR ws f f') L3 p3 ∧ μ (mixR ws f f') L3 p3 < μ (mixR ws f g) L2 p2
   | e => K e f' L' p') (mixR ws f g) L2 p2) : dLoop ws body K f L p := ⟨[], L1, p1, I, μ, h0.1, h0.2.1, h0.2.2, .inl h1⟩
theorem SubO.nil (L : Ob) : SubO [] L := fun _ h => by cases h
theorem SubO.cons {i : Nat} {b : O} {A L : Ob} (h : look L i = some b) (k : SubO A L) : SubO ((i, b) :: A) L := fun q hq => by
 rcases List.mem_cons.1 hq with rfl | hq
 ·exact h
 ·exact k q hq
theorem PoSub.none (p : Po) : PoSub p none := fun _ h => by cases h
theorem PoSub.refl (p : Po) : PoSub p p := fun qs h => ⟨qs, h, Sb.refl _⟩
def ixS : S → Int
 | .c (.v (.int _ k)) => k
 | _ => 0
theorem dDrawn.intro {P : Program} {n : Nat} {ops : Array Oper} {K : K0} {f : Rg} {L : Ob} {p : Po} (xs : List Nat) (r : Plan) (hp : (Region.noSelect ops && planOkD ops xs ops.size (Array.replicate ops.size false) true r) = true)
 (h : dPlan P n ops xs K r f L p) : dDrawn P n ops K f L p := by
 simp only [Bool.and_eq_true] at hp
 exact ⟨hp.1, xs, r, hp.2, h⟩
end
theorem endOk {L : Ob} {p : Po} {s r : S} {nobj : Nat} {objs : List (List C)} (h : objs.length = nobj ∧ flat r objs = true ∧ leR (rhoE L s r nobj objs) L s (expS 9700 r) ∧ leB (rhoE L s r nobj objs) L (back r objs) ∧
 nodupB ((rhoE L s r nobj objs).map (·.2)) = true ∧ disjB (brwE L (rhoE L s r nobj objs) s r objs) ((rhoE L s r nobj objs).map (·.2)) = true ∧ inPool p (fps r objs)) : EndOk L p s r nobj objs :=
 ⟨h.1, h.2.1, h.2.2.1, h.2.2.2.1, h.2.2.2.2.1, h.2.2.2.2.2.1, h.2.2.2.2.2.2⟩
theorem plainL_append : ∀ a b : List C, plainL (a ++ b) = (plainL a && plainL b)
 | [], _ => by simp [plainL]
 | x :: r, b => by simp [plainL, plainL_append r b, Bool.and_assoc]
section
variable {ρ : List (Nat × Nat)} {L : Ob}
theorem plain_all : ∀ {cs : List C}, plainL cs = true → (∀ b, expC b cs = cs) ∧ (∀ b, expO b cs = []) ∧ rhoL cs cs = [] ∧ brwL cs cs = [] ∧ leL ρ L cs cs ∧ flatL cs = true ∧ fpL cs = []
 | [], _ => ⟨fun _ => rfl, fun _ => rfl, rfl, rfl, trivial, rfl, rfl⟩
 | x :: r, h => by
  simp only [plainL, Bool.and_eq_true] at h
  obtain ⟨h1, h2, h3, h4, h5, h6, h7⟩ := plain_all h.2
  cases x with
  | v y =>
   refine ⟨fun b => by simp [expC, h1], fun b => by simp [expO, h2], by simp [rhoL, rhoC, h3], by simp [brwL, brwC, h4], ⟨?_, h5⟩, by simp [flatL, flatC, h6], by simp [fpL, fpC, h7]⟩
   cases y <;> simp [leC]
  | sl m ds F =>
   cases F with
   | some _ => simp [plainC] at h
   | none => exact ⟨fun b => by simp [expC, h1], fun b => by simp [expO, h2], by simp [rhoL, rhoC, h3], by simp [brwL, brwC, h4], ⟨⟨rfl, rfl, .inl rfl⟩, h5⟩, by simp [flatL, flatC, h6], by simp [fpL, fpC, h7]⟩
  | _ => simp [plainC] at h
theorem plain_tu : ∀ {xs : List (List C × Bool)}, plainL (xs.flatMap (·.1)) = true → (∀ b, expT b xs = xs) ∧ rhoT xs xs = [] ∧ brwT xs xs = [] ∧ leT ρ L xs xs
 | [], _ => ⟨fun _ => rfl, rfl, rfl, trivial⟩
 | (cs, t) :: r, h => by
  simp only [List.flatMap_cons, plainL_append, Bool.and_eq_true] at h
  obtain ⟨h1, _, h3, h4, h5, _, _⟩ := plain_all (ρ := ρ) (L := L) h.1
  obtain ⟨k1, k2, k3, k4⟩ := plain_tu h.2
  exact ⟨fun b => by simp [expT, h1, k1], by simp [rhoT, h3, k2], by simp [brwT, h4, k3], rfl, h5, k4⟩
theorem plain_S {s : S} (h : plainL (cellsS s) = true) : expS 9700 s = s ∧ rhoR s s = [] ∧ brwR s s = [] ∧ leR ρ L s s := by
 cases s with
 | c x =>
  obtain ⟨h1, _, h3, h4, h5, _, _⟩ := plain_all (ρ := ρ) (L := L) (cs := [x]) h
  refine ⟨by simp [expS, h1], by simpa [rhoL, rhoR] using h3, by simpa [brwL, brwR] using h4, h5.1⟩
 | ag cs =>
  obtain ⟨h1, _, h3, h4, h5, _, _⟩ := plain_all (ρ := ρ) (L := L) (cs := cs) h
  exact ⟨by simp [expS, h1], h3, h4, h5⟩
 | tu xs =>
  obtain ⟨h1, h2, h3, h4⟩ := plain_tu (ρ := ρ) (L := L) (xs := xs) h
  exact ⟨by simp [expS, h1], h2, h3, h4⟩
end
theorem Sb_nil_pool {p : Po} : inPool p [] := by
 unfold inPool
 split
 ·rfl
 ·exact Sb.nil _
theorem end0 {L : Ob} {p : Po} {s : S} (h : (plainL (cellsS s) && decide ((cellsS s).length ≤ 900)) = true) : EndOk L p s s 0 [] := by
 simp only [Bool.and_eq_true, decide_eq_true_eq] at h
 obtain ⟨e1, e2, e3, e4⟩ := plain_S (ρ := rhoE L s s 0 []) (L := L) h.1
 obtain ⟨h1, h2, _, _, _, h6, h7⟩ := plain_all (ρ := []) (L := L) h.1
 have hb : back s [] = [] := by simp [back, h2, expB]
 have hr : rhoE L s s 0 [] = [] := by simp [rhoE, hb, rhoB, idp, e1, e2]
 refine ⟨rfl, by simp [Go.Dv.flat, h6, h.2, flatB], by rw [e1]; exact e4, by rw [hb]; trivial, by rw [hr]; rfl, ?_, ?_⟩
 ·rw [hr]; simp [brwE, hb, brwB, e1, e3, disjB]
 ·simp only [fps, h7, fpB, List.append_nil]; exact Sb_nil_pool
theorem call0 {q : Bool} {P : Program} {g : FuncId} {sargs : List S} {n d : Nat} {K : K0} {f : Rg} {L : Ob} {p : Po} {args : List S} {R : S → List (List C) → Prop} (h : Cl P g args [] R) (hd : d < n)
 (harg : args.length ≤ 100 ∧ leA (rho L sargs args []) L sargs (expA 9500 args) ∧ leB (rho L sargs args []) L (lent args []) ∧ nodupB ((rho L sargs args []).map (·.2)) = true ∧ disjB (brw L (rho L sargs args []) sargs args []) ((rho L sargs args []).map (·.2)) = true ∧ famOk L d (rho L sargs args []) = true ∧ (q = true → lent args [] = []))
 (hk : ∀ r, R r [] → (brw L (rho L sargs args []) sargs args [] = [] ∨ toldL (cellsS r) = true) ∧ after (rho L sargs args []) n d r [] K f L p) : CallQ q P g sargs n (some d) K f L p :=
 CallQ.intro h hd harg fun r os hR hos => by
  have : os = [] := List.eq_nil_of_length_eq_zero hos
  subst this
  obtain ⟨h1, h2⟩ := hk r hR
  exact ⟨h1.imp id fun h => by rw [h]; rfl, h2⟩
theorem callT {q : Bool} {P : Program} {g : FuncId} {sargs : List S} {n d : Nat} {K : K0} {f : Rg} {L : Ob} {args : List S} {objs : List (List C)} {R : S → List (List C) → Prop} {T : List Nat} {ps : List (List Nat)} (rest : List (List Nat)) (h : ClT P g args objs T R) (hd : d < n)
 (harg : args.length ≤ 100 ∧ leA (rho L sargs args objs) L sargs (expA 9500 args) ∧ leB (rho L sargs args objs) L (lent args objs) ∧ nodupB ((rho L sargs args objs).map (·.2)) = true ∧ disjB (brw L (rho L sargs args objs) sargs args objs) ((rho L sargs args objs).map (·.2)) = true ∧ famOk L d (rho L sargs args objs) = true ∧ (q = true → lent args objs = []))
 (hsp : ∀ x, (T ++ rest.flatten).count x ≤ ps.flatten.count x)
 (hk : ∀ r objs', R r objs' → objs'.length = objs.length → (brw L (rho L sargs args objs) sargs args objs = [] ∨ (toldL (cellsS r) && toldB objs') = true) ∧ after (rho L sargs args objs) n d r objs' K f L (some rest)) : CallQ q P g sargs n (some d) K f L (some ps) :=
 CallQ.introT rest h hd harg hsp hk
theorem cS {q : Bool} {P : Program} {g : FuncId} {sargs : List S} {n d : Nat} {K : K0} {f : Rg} {L : Ob} {p : Po} {args : List S} {objs : List (List C)} {r0 : S} {os0 : List (List C)} (h : Cl P g args objs fun r os => r = r0 ∧ os = os0) (hd : d < n)
 (harg : args.length ≤ 100 ∧ leA (rho L sargs args objs) L sargs (expA 9500 args) ∧ leB (rho L sargs args objs) L (lent args objs) ∧ nodupB ((rho L sargs args objs).map (·.2)) = true ∧ disjB (brw L (rho L sargs args objs) sargs args objs) ((rho L sargs args objs).map (·.2)) = true ∧ famOk L d (rho L sargs args objs) = true ∧ (q = true → lent args objs = []))
 (hk : (brw L (rho L sargs args objs) sargs args objs = [] ∨ (toldL (cellsS r0) && toldB os0) = true) ∧ after (rho L sargs args objs) n d r0 os0 K f L p) : CallQ q P g sargs n (some d) K f L p :=
 CallQ.intro h hd harg fun r os ⟨e1, e2⟩ _ => by subst e1 e2; exact hk
theorem cZ {q : Bool} {P : Program} {g : FuncId} {sargs : List S} {n d : Nat} {K : K0} {f : Rg} {L : Ob} {p : Po} {args : List S} {r0 : S} (h : Cl P g args [] fun r _ => r = r0) (hd : d < n)
 (harg : args.length ≤ 100 ∧ leA (rho L sargs args []) L sargs (expA 9500 args) ∧ leB (rho L sargs args []) L (lent args []) ∧ nodupB ((rho L sargs args []).map (·.2)) = true ∧ disjB (brw L (rho L sargs args []) sargs args []) ((rho L sargs args []).map (·.2)) = true ∧ famOk L d (rho L sargs args []) = true ∧ (q = true → lent args [] = []))
 (hk : (brw L (rho L sargs args []) sargs args [] = [] ∨ toldL (cellsS r0) = true) ∧ after (rho L sargs args []) n d r0 [] K f L p) : CallQ q P g sargs n (some d) K f L p :=
 call0 h hd harg fun r e => by subst e; exact hk
theorem drop_row {α : Type} {row : α → List Go.Vc.D} {sz : Nat} (hsz : ∀ e, (row e).length = sz) : ∀ {es : List α} {k : Nat} {e : α}, es[k]? = some e → (es.flatMap row).drop (k * sz) = row e ++ (es.drop (k + 1)).flatMap row
 | [], _, _, h => by simp at h
 | x :: r, 0, e, h => by simp at h; subst h; simp
 | x :: r, k + 1, e, h => by
  have ih := drop_row hsz (es := r) (k := k) (by simpa using h)
  simp only [List.flatMap_cons, List.drop_succ_cons]
  rw [Nat.add_mul, Nat.one_mul, Nat.add_comm, ← List.drop_drop, List.drop_left' (hsz x)]
  exact ih
theorem flatMap_len {α : Type} {row : α → List Go.Vc.D} {sz : Nat} (hsz : ∀ e, (row e).length = sz) : ∀ es : List α, (es.flatMap row).length = es.length * sz
 | [] => by simp
 | x :: r => by rw [List.flatMap_cons, List.length_append, hsz, flatMap_len hsz r, List.length_cons, Nat.add_mul]; omega
theorem takeD_row {ds r : List Go.Vc.D} {k : Nat} (h : ds.length = k) : takeD k (ds ++ r) = some ds := by
 subst h
 induction ds with
 | nil => cases r <;> rfl
 | cons x t ih => simp only [List.cons_append, List.length_cons, takeD, ih]
end Go.Dv
namespace Go.Dv
open Go Go.RowKit
open Go.Vc (okV Plan callable)
variable [Out]
theorem plain_expS {s : S} (h : plainL (cellsS s) = true) (b : Nat) : expS b s = s := by
 cases s with
 | c x =>
  obtain ⟨h1, _⟩ := plain_all (ρ := []) (L := []) (cs := [x]) h
  simp [expS, h1]
 | ag cs =>
  obtain ⟨h1, _⟩ := plain_all (ρ := []) (L := []) (cs := cs) h
  simp [expS, h1]
 | tu xs =>
  obtain ⟨h1, _⟩ := plain_tu (ρ := []) (L := []) (xs := xs) h
  simp [expS, h1]
theorem plain_args : ∀ {args : List S} (b : Nat), plainL (args.flatMap cellsS) = true → expA b args = args ∧ expAO b args = []
 | [], _, _ => ⟨rfl, rfl⟩
 | s :: r, b, h => by
  simp only [List.flatMap_cons, plainL_append, Bool.and_eq_true] at h
  obtain ⟨h1, h2⟩ := plain_args (args := r) (b + 1) h.2
  obtain ⟨_, k2, _⟩ := plain_all (ρ := []) (L := []) h.1
  exact ⟨by simp [expA, plain_expS h.1, h1], by simp [expAO, k2, h2]⟩
theorem Cl.ofNew {P : Program} {g : FuncId} {R : S → List (List C) → Prop} (hc : callable P g = true) (xs : List Value)
 (h : ∀ w, GlW w (fun _ => False) → Calls P g xs.toArray w fun e w' => ∃ v r, e = .returned v ∧ R r [] ∧ (plainL (cellsS r) && decide ((cellsS r).length ≤ 900)) = true ∧ (∀ β, RelS P w' β (fun b => w.heap.size ≤ b) r v) ∧ Below w.heap.size w w') :
 Cl P g (xs.map fun x => .c (.v x)) [] R := by
 refine ⟨hc, fun w β ok0 vs ha ho hg => ?_⟩
 have hpl : plainL ((xs.map fun x => (S.c (.v x))).flatMap cellsS) = true := by
  clear ha ho hg h
  induction xs with
  | nil => rfl
  | cons x r ih => simp only [List.map_cons, List.flatMap_cons, plainL_append, ih, Bool.and_true]; rfl
 obtain ⟨e1, e2⟩ := plain_args 9500 hpl
 have el : lent (xs.map fun x => (S.c (.v x))) [] = [] := by simp [lent, e2, expB]
 rw [e1] at ha
 have hvs : vs = xs := by
  generalize okA ok0 (lent (xs.map fun x => (S.c (.v x))) []) β = okk at ha
  clear hpl e1 e2 el ho hg h
  induction xs generalizing vs with
  | nil => cases vs with | nil => rfl | cons _ _ => exact ha.elim
  | cons x r ih => cases vs with
   | nil => exact ha.elim
   | cons v t =>
    obtain ⟨h1, h2⟩ := ha
    rw [h1.1, ih t h2]
 subst hvs
 have ho' : ∀ b, ¬ ownB (lent (vs.map fun x => (S.c (.v x))) []) β b := by rw [el]; rintro b ⟨i, o, hl, _⟩; simp [look] at hl
 refine (h w (hg.mono (fun _ _ _ => rfl) fun _ h _ => h.elim)).mono ?_
 rintro e w' ⟨v, r, rfl, hR, hp, hrel, hB⟩
 simp only [Bool.and_eq_true, decide_eq_true_eq] at hp
 obtain ⟨k1, k2, k3, k4, k5, k6, k7⟩ := plain_all (ρ := []) (L := []) hp.1
 have hbk : back r [] = [] := by simp [back, k2, expB]
 have hnb : ∀ b, ¬ ownB (back r []) β b := by rw [hbk]; rintro b ⟨i, o, hl, _⟩; simp [look] at hl
 refine ⟨v, r, [], β, rfl, hR, ⟨?_, ⟨fun i o hl => ?_, fun i j o o' b hl => ?_⟩, fun k hk => absurd hk (Nat.not_lt_zero _), rfl, ⟨hB.size, fun b hb _ => hB.block b hb, fun b _ hb => (hnb b hb).elim, fun b cs ty lh hc => ⟨cs, lh, (hB.block b (lt_of_heap hc)).trans hc, rfl⟩⟩, hB.size, ⟨hB.os, hB.tape, hB.output⟩, ⟨by simp [fps, k7, fpB], fun b hb => ?_⟩, by simp [flat, k6, hp.2, flatB]⟩⟩
 ·rw [plain_expS hp.1]
  exact (hrel β).st (stab_mono fun b hb => ⟨hnb b, fun hlt => by omega⟩)
 ·simp [hbk, look] at hl
 ·simp [hbk, look] at hl
 ·simp [fps, k7, fpB] at hb
theorem Cl.ofVals {P : Program} {g : FuncId} {R : S → List (List C) → Prop} (hc : callable P g = true) (xs : List Value)
 (h : ∀ w, GlW w (fun _ => False) → Calls P g xs.toArray w fun e w' => ∃ v, e = .returned v ∧ okV v ∧ R (.c (.v v)) [] ∧ Below w.heap.size w w') : Cl P g (xs.map fun x => .c (.v x)) [] R :=
 Cl.ofNew hc xs fun w hg => (h w hg).mono fun _ _ ⟨v, h1, h2, h3, h4⟩ => ⟨v, _, h1, h3, rfl, fun _ => ⟨rfl, h2⟩, h4⟩
end Go.Dv
namespace Go.Dv
open Go Go.RowKit
open Go.Vc (D okV Plan guardSlot dsts)
variable [Out]
def Le (K K' : K0) : Prop := ∀ f L p, K f L p → K' f L p
def Mo (F : K0 → K0) : Prop := ∀ {K K' : K0}, Le K K' → Le (F K) (F K')
theorem create_mo {n d is ob mk} : Mo (create n d is ob mk) := fun {K K'} hk f L p => by
 unfold create
 repeat' split
 all_goals repeat' first | exact hk _ _ _ | exact id | exact False.elim | refine And.imp ?_ ?_ | refine Exists.imp fun _ => ?_ | refine forall_imp fun _ => ?_
theorem dPure_mo {P n d s} : Mo (dPure P n d s) := fun {K K'} hk f L p => by
 unfold dPure
 repeat' first | exact hk _ _ _ | exact id | exact False.elim | refine And.imp ?_ ?_ | refine Exists.imp fun _ => ?_ | refine forall_imp fun _ => ?_
theorem kLoad_mo {n d t cs} : Mo (kLoad n d t cs) := fun {K K'} hk f L p => by
 unfold kLoad
 repeat' split
 all_goals repeat' first | exact hk _ _ _ | exact id | exact False.elim | refine And.imp ?_ ?_ | refine Exists.imp fun _ => ?_ | refine forall_imp fun _ => ?_
theorem dLoad_mo {P n d t x} : Mo (dLoad P n d t x) := fun {K K'} hk f L p => by
 have h1 := @kLoad_mo
 unfold dLoad
 repeat' split
 all_goals repeat' first | exact kLoad_mo hk _ _ _ | exact id | exact False.elim | refine And.imp ?_ ?_
theorem dStore_mo {P n d t x y} : Mo (dStore P n d t x y) := fun {K K'} hk f L p => by
 unfold dStore
 split
 ·refine And.imp id (And.imp id (And.imp id ?_))
  repeat' split
  all_goals repeat' first | exact hk _ _ _ | exact id | exact False.elim | refine And.imp ?_ ?_ | split
 ·exact id
theorem newsOf_mo {t : S} {L : Ob} {k k' : Nat → List D → Fp → Prop} (h : ∀ a b c, k a b c → k' a b c) : newsOf t L k → newsOf t L k' := by
 unfold newsOf
 repeat' split
 all_goals repeat' first | exact h _ _ _ | exact id | refine And.imp ?_ ?_
theorem dAppend_mo {P n d T s t} : Mo (dAppend P n d T s t) := fun {K K'} hk f L p => by
 unfold dAppend
 split
 ·exact id
 ·refine newsOf_mo fun a b c => ?_
  refine And.imp id (And.imp id ?_)
  repeat' split
  all_goals repeat' first | exact create_mo hk _ _ _ | exact id | refine And.imp ?_ ?_
theorem frz_mo {i : Nat} {k k' : Nat → C → K0} (h : ∀ n x, Le (k n x) (k' n x)) : Le (frz i k) (frz i k') := fun f L p => by
 unfold frz
 repeat' split
 all_goals repeat' first | exact h _ _ _ _ _ | exact id | refine forall_imp fun _ => ?_
theorem outC_mo {k k' : List C → K0} (h : ∀ cs, Le (k cs) (k' cs)) : ∀ (m : Nat) (cs : List C), Le (outC m cs k) (outC m cs k')
 | 0, cs => fun f L p => id
 | m + 1, cs => fun f L p => by
  unfold outC
  cases ownsC cs with
  | none => exact h _ _ _ _
  | some i => exact frz_mo (fun n x => outC_mo h m _) _ _ _
theorem dBuildS_mo {P n d T len ps} : Mo (dBuildS P n d T len ps) := fun {K K'} hk f L p => by
 unfold dBuildS
 repeat' split
 all_goals first | exact id | skip
 refine And.imp id (And.imp id (outC_mo (fun cs f L p => ?_) _ _ _ _ _))
 split
 ·exact create_mo hk _ _ _
 ·exact id
theorem dIndexAddr_mo {P n d T x i} : Mo (dIndexAddr P n d T x i) := fun {K K'} hk f L p => by
 unfold dIndexAddr
 repeat' split
 all_goals repeat' first | exact hk _ _ _ | exact id | exact False.elim | refine And.imp ?_ ?_ | refine Exists.imp fun _ => ?_ | refine forall_imp fun _ => ?_
theorem dLen_mo {P n d T x} : Mo (dLen P n d T x) := fun {K K'} hk f L p => by
 unfold dLen
 repeat' split
 all_goals repeat' first | exact hk _ _ _ | exact id | exact False.elim | refine And.imp ?_ ?_ | refine Exists.imp fun _ => ?_ | refine forall_imp fun _ => ?_
theorem dConvB_mo {P n d s t ln ds} : Mo (dConvB P n d s t ln ds) := fun {K K'} hk f L p => by
 unfold dConvB
 repeat' first | exact hk _ _ _ | exact id | exact False.elim | refine And.imp ?_ ?_ | refine Exists.imp fun _ => ?_ | refine forall_imp fun _ => ?_
theorem dConv_mo {P n d s t x} : Mo (dConv P n d s t x) := fun {K K'} hk f L p => by
 unfold dConv
 repeat' split
 all_goals repeat' first | exact dConvB_mo hk _ _ _ | exact dPure_mo hk _ _ _ | exact id | refine And.imp ?_ ?_
theorem dCut_mo {P n d T ln ds l h} : Mo (dCut P n d T ln ds l h) := fun {K K'} hk f L p => by
 unfold dCut
 repeat' split
 all_goals repeat' first | exact hk _ _ _ | exact id | exact False.elim | refine And.imp ?_ ?_ | refine Exists.imp fun _ => ?_ | refine forall_imp fun _ => ?_
theorem dSlice_mo {P n d T x l h} : Mo (dSlice P n d T x l h) := fun {K K'} hk f L p => by
 unfold dSlice
 repeat' split
 all_goals first | exact dPure_mo hk _ _ _ | exact dCut_mo hk _ _ _ | exact id
theorem dMake_mo {P n d T l c} : Mo (dMake P n d T l c) := fun {K K'} hk f L p => by
 unfold dMake
 repeat' split
 all_goals repeat' first | exact create_mo hk _ _ _ | exact id | refine And.imp ?_ ?_
def MoT (CT : CallT) : Prop := ∀ g ss n d, Mo (CT g ss n d)
theorem dOp_mo {CT : CallT} (hC : MoT CT) {P n o} : Mo (dOp CT P n o) := fun {K K'} hk f L p => by
 unfold dOp
 split
 all_goals repeat' first | exact hk _ _ _ | exact create_mo hk _ _ _ | exact dBuildS_mo hk _ _ _ | exact dMake_mo hk _ _ _ | exact dLoad_mo hk _ _ _ | exact dStore_mo hk _ _ _ | exact dIndexAddr_mo hk _ _ _ | exact hC _ _ _ _ hk _ _ _ | exact dLen_mo hk _ _ _ | exact dAppend_mo hk _ _ _ | exact dPure_mo hk _ _ _ | exact dConv_mo hk _ _ _ | exact dSlice_mo hk _ _ _ | exact id | exact And.imp (forall_imp fun _ => hk _ _ _) (forall_imp fun _ => hk _ _ _) | refine And.imp ?_ ?_ | split
theorem dOpF_mo {CT : CallT} (hC : MoT CT) {P n o} : Mo (dOpF CT P n o) := fun {K K'} hk f L p => by
 unfold dOpF
 split
 all_goals repeat' first | exact dOp_mo hC hk _ _ _ | exact frz_mo (fun _ _ => dOp_mo hC hk) _ _ _ | exact And.imp id (create_mo hk _ _ _) | split
theorem frzL_mo {k k' : List S → K0} (h : ∀ ss, Le (k ss) (k' ss)) : ∀ (is : List Nat) (ss : List S), Le (frzL is ss k) (frzL is ss k')
 | [], ss => h ss
 | i :: r, ss => frz_mo fun _ _ => frzL_mo h r _
theorem after_mo {ρ n d r objs} : Mo (after ρ n d r objs) := fun {K K'} hk f L p => by
 unfold after
 exact hk _ _ _
theorem Call1_mo {q P g ss n d} : Mo (Call1 q P g ss n d) := fun {K K'} hk f L p => by
 unfold Call1
 split
 ·refine And.imp id (Or.imp ?_ (Or.imp ?_ ?_))
  ·rintro ⟨args, objs, T, p0, R, h1, h2, h3, h5, h4⟩
   exact ⟨args, objs, T, p0, R, h1, h2, h3, h5, fun r o hr ho => ⟨(h4 r o hr ho).1, after_mo hk _ _ _ (h4 r o hr ho).2⟩⟩
  ·rintro ⟨R, h1, h2⟩
   exact ⟨R, h1, fun cs hc => hk _ _ _ (h2 cs hc)⟩
  ·rintro ⟨R, h1, h2⟩
   exact ⟨R, h1, fun cs x hc => hk _ _ _ (h2 cs x hc)⟩
 ·exact id
theorem CallQ_mo {q P g ss n d} : Mo (CallQ q P g ss n d) := fun {K K'} hk f L p => by
 unfold CallQ
 rintro ⟨is, h⟩
 exact ⟨is, frzL_mo (fun ss => Call1_mo hk) is ss f L p h⟩
theorem callT_mo {q P} : MoT (CallQ q P) := fun _ _ _ _ => CallQ_mo
theorem callK_mo {P} : MoT (CallK P) := fun _ _ _ _ => CallQ_mo
theorem dGuard_mo {n ops o} {st : K0 → K0} (hs : Mo st) : Mo (dGuard n ops o st) := fun {K K'} hk f L p => by
 unfold dGuard
 split
 ·exact hs hk _ _ _
 ·split
  ·exact id
  ·split
   ·exact And.imp (forall_imp fun _ => hs hk _ _ _) (forall_imp fun _ => hk _ _ _)
   ·exact hk _ _ _
   ·exact id
theorem dPlan_mo {P n ops xs} {K K' : K0} (hk : Le K K') : ∀ (r : Plan), Le (dPlan P n ops xs K r) (dPlan P n ops xs K' r)
 | .done => hk
 | .nobr => fun _ _ _ h => h
 | .take i p => fun f L q => by
  simp only [dPlan]
  split
  ·exact dGuard_mo (fun hk => dOp_mo callK_mo hk) (dPlan_mo hk p) _ _ _
  ·exact id
 | .br i p r => fun f L q => by
  simp only [dPlan]
  refine And.imp ?_ (dPlan_mo hk r _ _ _)
  split
  ·exact dGuard_mo (fun hk => dOpF_mo callT_mo hk) (dPlan_mo hk p) _ _ _
  ·exact id
theorem dDrawn_mo {P n ops} : Mo (dDrawn P n ops) := fun {K K'} hk f L p => by
 rintro ⟨h1, xs, r, h2, h3⟩
 exact ⟨h1, xs, r, h2, dPlan_mo hk r _ _ _ h3⟩
theorem brC {q : Bool} {P : Program} {g : FuncId} {ss : List S} {n : Nat} {d : Option Nat} {K : K0} {f : Rg} {L : Ob} {p : Po} {B : Prop} (h : CallQ q P g ss n d K f L p) (k : B) : CallQ q P g ss n d K f L p ∧ B := ⟨h, k⟩
theorem brA {b : Bool} {x y : Nat} {Z B : Prop} (h : b = true ∧ room x y ∧ Z) (k : B) : (b = true ∧ room x y ∧ Z) ∧ B := ⟨h, k⟩
theorem brA2 {b : Bool} {x y : Nat} {Z B B' : Prop} (h : (b = true ∧ room x y ∧ Z) ∧ B) (k : B') : ((b = true ∧ room x y ∧ Z) ∧ B) ∧ B' := ⟨h, k⟩
theorem brA3 {b : Bool} {x y : Nat} {Z B B' B'' : Prop} (h : ((b = true ∧ room x y ∧ Z) ∧ B) ∧ B') (k : B'') : (((b = true ∧ room x y ∧ Z) ∧ B) ∧ B') ∧ B'' := ⟨h, k⟩
theorem brC2 {q : Bool} {P : Program} {g : FuncId} {ss : List S} {n : Nat} {d : Option Nat} {K : K0} {f : Rg} {L : Ob} {p : Po} {B B' : Prop} (h : CallQ q P g ss n d K f L p ∧ B) (k : B') : (CallQ q P g ss n d K f L p ∧ B) ∧ B' := ⟨h, k⟩
theorem dDrawn_j1 {P : Program} {n : Nat} {ops : Array Oper} {K : K0} {f : Rg} {L : Ob} {p : Po} (s0 : Nat) {v0 : S} {L1 : Ob} {p1 : Po} (h1 : dDrawn P n ops (fun f' L' p' => f' s0 = v0 ∧ L' = L1 ∧ p' = p1) f L p) (h2 : ∀ f' : Rg, f' s0 = v0 → K f' L1 p1) : dDrawn P n ops K f L p :=
 dDrawn_mo (K := fun f' L' p' => f' s0 = v0 ∧ L' = L1 ∧ p' = p1) (fun f' L' p' => by rintro ⟨q0, rfl, rfl⟩; exact h2 f' q0) _ _ _ h1
theorem dDrawn_j3 {P : Program} {n : Nat} {ops : Array Oper} {K : K0} {f : Rg} {L : Ob} {p : Po} (s0 : Nat) (s1 : Nat) (s2 : Nat) {v0 : S} {v1 : S} {v2 : S} {L1 : Ob} {p1 : Po} (h1 : dDrawn P n ops (fun f' L' p' => f' s0 = v0 ∧ f' s1 = v1 ∧ f' s2 = v2 ∧ L' = L1 ∧ p' = p1) f L p) (h2 : ∀ f' : Rg, f' s0 = v0 → f' s1 = v1 → f' s2 = v2 → K f' L1 p1) : dDrawn P n ops K f L p :=
 dDrawn_mo (K := fun f' L' p' => f' s0 = v0 ∧ f' s1 = v1 ∧ f' s2 = v2 ∧ L' = L1 ∧ p' = p1) (fun f' L' p' => by rintro ⟨q0, q1, q2, rfl, rfl⟩; exact h2 f' q0 q1 q2) _ _ _ h1
theorem dDrawn_j4 {P : Program} {n : Nat} {ops : Array Oper} {K : K0} {f : Rg} {L : Ob} {p : Po} (s0 : Nat) (s1 : Nat) (s2 : Nat) (s3 : Nat) {v0 : S} {v1 : S} {v2 : S} {v3 : S} {L1 : Ob} {p1 : Po} (h1 : dDrawn P n ops (fun f' L' p' => f' s0 = v0 ∧ f' s1 = v1 ∧ f' s2 = v2 ∧ f' s3 = v3 ∧ L' = L1 ∧ p' = p1) f L p) (h2 : ∀ f' : Rg, f' s0 = v0 → f' s1 = v1 → f' s2 = v2 → f' s3 = v3 → K f' L1 p1) : dDrawn P n ops K f L p :=
 dDrawn_mo (K := fun f' L' p' => f' s0 = v0 ∧ f' s1 = v1 ∧ f' s2 = v2 ∧ f' s3 = v3 ∧ L' = L1 ∧ p' = p1) (fun f' L' p' => by rintro ⟨q0, q1, q2, q3, rfl, rfl⟩; exact h2 f' q0 q1 q2 q3) _ _ _ h1
end Go.Dv
