/-
  The symbolic walk is sound, second half; the laws of data; what a reading says.
  Conditions: none.
-/
import Derived.Test.YtfdcibofiibppaaGreatDoorFWalkA
import Derived.Laws.IdiomStrings
import Derived.OrdersHeld
import Derived.Scope
import Derived.Laws.StructEq
import Derived.ChangeKeysEq
import Derived.Lib.SliceRun
import Derived.ChangeArms
import Derived.Carry
import Derived.DataReads
import Derived.RowKit3
set_option linter.unusedVariables false
set_option linter.unusedSimpArgs false
namespace Go.Vc
open Go Go.RowKit
section
variable {P : Program} {n : Nat} {m0 w0 : World} {β κ : Nat → Nat} {f : Regs} {L : Lst} {m : World} {a : Act} {w : World}
  {K : K0} {Ka : Act → World → Prop} {Q : Exit → Act → World → Prop}

theorem fieldOff_spec {T k q : Nat} (h : fieldOff P T k = some q) (ad : Addr) (w : World) : (Instr.fieldAt T (.pointer (some ad)) k).run P w = .ok (.pointer (some (ad.add q))) w := by
  unfold fieldOff at h
  split at h
  case h_2 => cases h
  rename_i fs hu
  cases hk : fs[k]? with
  | none => simp [hk] at h
  | some fd =>
    simp only [hk, Option.bind_some] at h
    split at h
    case h_2 => cases h
    rename_i i hi
    split at h
    case isTrue => cases h
    rename_i hne
    simp only [Option.some.injEq] at h
    subst h
    simp [Instr.fieldAt, underlying_run hu, hk, Instr.sureAddr, fieldPlace, sizeOf, typeInfo, hi, hne]

theorem makeSlice_step {o : Oper} {T : Nat} {l c : Operand} (ho : o.op = .makeSlice T l c) (hs : Sim P n m0 w0 β κ f L m a w)
    (h : vcOp P n o K f L m) (hK : Abs P n m0 w0 β κ a o.dst.toList K Ka) : o.wp P a w Ka Q := by
  simp only [vcOp, ho] at h
  have hl := ev_conc hs l
  have hc := ev_conc hs c
  split at h
  case h_2 => exact h.elim
  rename_i x y e sz bytes hel hec hes
  rw [hel] at hl
  rw [hec] at hc
  have hl : a.eval l = .int .i64 x := hl
  have hc : a.eval c = .int .i64 y := hc
  obtain ⟨h0, rfl, hsz0, hby, h63, h⟩ := h
  split at h
  case h_2 => exact h.elim
  rename_i zs hzs
  obtain ⟨hu, i, hi, hsz, hbs⟩ := elemS_spec hes
  obtain ⟨zv, hzv, hzl, hzs'⟩ := zerosOf_spec hzs w
  have hzi : i.zero = some zv := by
    simp only [zeroValue, typeInfo, Sem.run_bind, run_program, Result.andThen_ok, hi, Sem.run_pure] at hzv
    cases hz : i.zero with
    | none => simp [hz] at hzv
    | some q => simp only [hz, Sem.run_pure, Result.ok.injEq, and_true] at hzv; rw [hzv]
  have hmade : (madeCells zv.cells (x.toNat * sz)).toList = zs := by rw [hzs', ← toList_made _ _ (by omega)]; simp only [madeCells, hzl]
  have hm := run_make (P := P) w T e i zv hu hi hzi .i64 .i64 x x h0 (Int.le_refl _) (by rw [hbs, Int.mul_comm]; omega) h63
  rw [hsz] at hm
  have hrun : (execOp a.eval o).run P w = .ok (.value (.slice (some ⟨w.heap.size, 0, none⟩) x.toNat x.toNat)) (w.alloc (.cells (madeCells zv.cells (x.toNat * sz)) e)) := by
    simp [execOp, ho, hl, hc, hm]
  refine create_step (c := x.toNat) hs hrun (fun d _ => ?_) (fun d _ => ?_) h hK
  · show ∃ junk, _
    refine ⟨[], by simp [hmade], by simp, by simp only [maxLen]; omega, fun s hss => ?_⟩
    have : s = sz := by have := hss; simp only [hi, Option.map_some, Option.some.injEq] at this; omega
    rw [size_madeCells, this]
  · simp [Conc]

/-! ### append -/
theorem run_append_room' (t ty e : TypeId) (i : TypeInfo) (ht : P.underlying t = some (.slice e)) (hi : P.info? e = some i)
    (g sLen sCap : Nat) (cur : Array Value) (hg : w.heap[g]? = some (.cells cur e (0, 0)))
    (tv : Value) (q : Nat) (news : List Value) (hq : (Builtin.lenOf tv).run P w = .ok q w) (hf : (Builtin.firstCells i.size q tv).run P w = .ok news.toArray w) (h1 : ∀ u ∈ news, u.oneCell' = true)
    (hroom : sLen + q ≤ sCap) (hfit : sLen * i.size + news.length ≤ cur.size) :
    (Builtin.append_ #[t, t] ty #[.slice (some ⟨g, 0, none⟩) sLen sCap, tv]).run P w =
      .ok (.slice (some ⟨g, 0, none⟩) (sLen + q) sCap) (w.setRow g (cur.toList.take (sLen * i.size) ++ news ++ cur.toList.drop (sLen * i.size + news.length)).toArray) := by
  have hst := run_storeCells_at P g (sLen * i.size) e news 0 cur w hg (by simpa using hfit) h1
  simp only [Nat.add_zero] at hst
  simp [Builtin.append_, run_underlying ht, sizeOf, typeInfo, hi, hq, hroom, hf, Addr.add_lit, hst]
theorem run_append_grow' (t ty e : TypeId) (i : TypeInfo) (z : Value) (ht : P.underlying t = some (.slice e)) (hi : P.info? e = some i) (hz : i.zero = some z)
    (base : Option Addr) (sLen sCap : Nat) (olds : List Value) (hfo : (Builtin.firstCells i.size sLen (.slice base sLen sCap)).run P w.drew = .ok olds.toArray w.drew)
    (tv : Value) (q : Nat) (news : List Value) (hq : (Builtin.lenOf tv).run P w = .ok q w) (hf : (Builtin.firstCells i.size q tv).run P w.drew = .ok news.toArray w.drew)
    (hg : sCap < sLen + q) (h63 : ((sLen + q : Nat) : Int) ≤ 9223372036854775807) (hfit : Builtin.nextslicecap (sLen + q) sCap * i.bytes ≤ 281474976710656) :
    (Builtin.append_ #[t, t] ty #[.slice base sLen sCap, tv]).run P w =
      .ok (.slice (some ⟨w.heap.size, 0, none⟩) (sLen + q) (grownCap w (sLen + q) sCap e))
        (w.drew.alloc (.cells (olds.toArray ++ news.toArray ++ Builtin.zeroCells z.cells (grownCap w (sLen + q) sCap e - (sLen + q))) e)) := by
  have hn : ¬ (sLen + q ≤ sCap) := by omega
  have h63' : ¬ (9223372036854775807 < ((sLen : Int) + (q : Int))) := by omega
  have h48' : ¬ (281474976710656 < Builtin.nextslicecap (sLen + q) sCap * i.bytes) := by omega
  simp [Builtin.append_, run_underlying ht, sizeOf, typeInfo, zeroValue, hi, hz, hq, hn, h63', h48', Question.forced, hf, hfo, newRow, grownCap]
  congr 2
  apply Array.ext'
  simp [List.append_assoc]

/-- What is appended: its number, its cells, in this world and behind a draw. -/
theorem newsOf_spec {sz : Nat} {t : SV} {tv : Value} {R : Nat → List Value → Prop} (hs : Sim P n m0 w0 β κ f L m a w) (ht : ConcS β κ t tv) (h : newsOf sz t L m R) :
    ∃ q news, R q news ∧ news.length = q * sz ∧ (Builtin.lenOf tv).run P w = .ok q w ∧ (Builtin.firstCells sz q tv).run P w = .ok news.toArray w ∧ (Builtin.firstCells sz q tv).run P w.drew = .ok news.toArray w.drew := by
  have some' : ∀ (ad : Addr) (q c : Nat) (news : List Value), news.length = q * sz → (∀ i v, news[i]? = some v → w.cell? (ad.add i) = some v) → tv = .slice (some ad) q c →
      (Builtin.lenOf tv).run P w = .ok q w ∧ (Builtin.firstCells sz q tv).run P w = .ok news.toArray w ∧ (Builtin.firstCells sz q tv).run P w.drew = .ok news.toArray w.drew := by
    intro ad q c news hl hc he
    subst he
    exact ⟨by simp [Builtin.lenOf], run_firstCells_some w sz q ad q c news hl hc, run_firstCells_some w.drew sz q ad q c news hl (by simpa using hc)⟩
  unfold newsOf at h
  split at h
  · rename_i j ln
    have ht : tv = .slice (some ⟨β j, 0, none⟩) ln (κ j) := ht
    split at h
    · rename_i ty vs cap hl
      obtain ⟨hle, h⟩ := h
      obtain ⟨⟨arr, hc, junk, hj, _⟩, _, _⟩ := hs.boxes j _ hl
      refine ⟨ln, _, h, by simp; omega, some' _ _ _ _ (by simp; omega) (fun i v hv => ?_) ht⟩
      rw [add_lit0, cell_of_row w (β j) _ arr _ _ hc]
      rw [List.getElem?_take] at hv
      split at hv
      · have : arr.toList[i]? = some v := by rw [hj, List.getElem?_append_left (List.getElem?_eq_some_iff.1 hv).1]; exact hv
        simpa using this
      · cases hv
    · exact h.elim
  · have ht : tv = .slice none 0 0 := ht
    subst ht
    exact ⟨0, [], h, by simp, by simp [Builtin.lenOf], by simp [Builtin.firstCells], by simp [Builtin.firstCells]⟩
  · rename_i ad ln cp
    have ht : tv = .slice (some ad) ln cp := ht
    obtain ⟨news, hl, hc, h⟩ := h
    exact ⟨ln, news, h, hl, some' _ _ _ _ hl (fun i v hv => hs.under.cell (hc i v hv)) ht⟩
  · exact h.elim

theorem Sim.drew (h : Sim P n m0 w0 β κ f L m a w) : Sim P n m0 w0 β κ f L m a w.drew :=
  ⟨h.size, h.defers, h.slots, h.boxes, h.inj, ⟨h.under.blocks, h.under.os, h.under.tape, h.under.output⟩, h.sizes, h.frame⟩

theorem zeroCells_len (z : Array Value) (k : Nat) : (Builtin.zeroCells z k).size = k * z.size := by simp [Builtin.zeroCells]

theorem append_step {o : Oper} {T : Nat} {s t : Operand} (ho : o.op = .call { callee := .builtin .append, args := #[s, t], argTypes := #[T, T] }) (hs : Sim P n m0 w0 β κ f L m a w)
    (hzero : ∀ e sz by', elemS P T = some (e, sz, by') → ∃ zs, zerosOf P e sz 1 = some zs)
    (h : vcAppend P n o.dst T (ev f s) (ev f t) K f L m) (hK : Abs P n m0 w0 β κ a o.dst.toList K Ka) : o.wp P a w Ka Q := by
  have hsv := ev_conc hs s
  have htv := ev_conc hs t
  unfold vcAppend at h
  split at h
  · exact h.elim
  rename_i e sz bytes hes
  obtain ⟨hu, i, hi, hsz, hbs⟩ := elemS_spec hes
  obtain ⟨zs, hzs⟩ := hzero _ _ _ hes
  obtain ⟨zv, hzv, hzl, _⟩ := zerosOf_spec hzs w
  have hzi : i.zero = some zv := by
    simp only [zeroValue, typeInfo, Sem.run_bind, run_program, Result.andThen_ok, hi, Sem.run_pure] at hzv
    cases hz : i.zero with
    | none => simp [hz] at hzv
    | some q => simp only [hz, Sem.run_pure, Result.ok.injEq, and_true] at hzv; rw [hzv]
  obtain ⟨q, news, ⟨hone, hsz0, h⟩, hnl, hq, hf, hfd⟩ := newsOf_spec hs htv h
  subst hsz hbs
  have hex : ∀ {v w'}, (Builtin.append_ #[T, T] o.type #[a.eval s, a.eval t]).run P w = .ok v w' → (execOp a.eval o).run P w = .ok (.value v) w' := by
    intro v w' hr
    simp [execOp, ho, resolve, invoke, builtin, hr]
  have hone' : ∀ u ∈ news, u.oneCell' = true := fun u hu => by rw [oneCell_eq]; exact hone u hu
  have hinfo : ∀ s', (P.info? e).map (·.size) = some s' → s' = i.size := fun s' h' => by simp only [hi, Option.map_some, Option.some.injEq] at h'; omega
  -- the array has grown: it is a new box
  have grow : ∀ (base : Option Addr) (ln cp : Nat) (olds : List Value) (L' : Lst), (∀ j b, look L' j = some b → look L j = some b) → a.eval s = .slice base ln cp → olds.length = ln * i.size →
      (Builtin.firstCells i.size ln (.slice base ln cp)).run P w.drew = .ok olds.toArray w.drew → cp < ln + q → ln + q ≤ maxLen → (ln + q) * i.bytes ≤ 140737488355328 →
      (∀ cap', ln + q ≤ cap' → cap' ≤ maxLen → create n o.dst (.arr e (olds ++ news) cap') (fun d => .bs d (ln + q)) K f L' m) → o.wp P a w Ka Q := by
    intro base ln cp olds L' hL' hev hol hfo hlt hml hby hk
    have hml' := hml
    simp only [maxLen] at hml'
    have hr := run_append_grow' (P := P) T o.type e i zv hu hi hzi base ln cp olds hfo (a.eval t) q news hq hfd hlt (by omega) (growslice_fits hlt hby)
    have hge := grownCap_ge w (ln + q) cp e
    have hle := grownCap_le_maxLen w (ln + q) cp e hml
    rw [← hev] at hr
    refine create_step (c := grownCap w (ln + q) cp e) (hs.drew.sub hL') (o := o) (w := w.drew) (w1 := w) (Q := Q) (hex hr) (fun d _ => ?_) (fun d _ => ?_) (hk _ hge hle) hK
    · show ∃ junk, _
      refine ⟨(Builtin.zeroCells zv.cells (grownCap w (ln + q) cp e - (ln + q))).toList, by simp, by simp, hle, fun s' hss => ?_⟩
      rw [hinfo s' hss]
      have hzc := zeroCells_len zv.cells (grownCap w (ln + q) cp e - (ln + q))
      simp only [Array.size_append, List.size_toArray, hzc, hol, hnl, hzl, ← Nat.add_mul]
      congr 1; omega
    · simp [Conc]
  split at h
  · rename_i i' ln hevs
    rw [hevs] at hsv
    have hsv : a.eval s = .slice (some ⟨β i', 0, none⟩) ln (κ i') := hsv
    split at h
    · rename_i ty vs cap hl
      obtain ⟨rfl, hle, hml, hby, hk⟩ := h
      obtain ⟨⟨arr, hc, junk, hj, hcap, hcm, hsize⟩, hnv, hgt⟩ := hs.boxes i' _ hl
      have hsize := hsize i.size (by simp [hi])
      have hal : arr.size = vs.length + junk.length := by simpa using congrArg List.length hj
      have hL' : ∀ j b, look (rem L i') j = some b → look L j = some b := fun j b hj' => by rw [look_rem] at hj'; split at hj' <;> first | (cases hj'; done) | exact hj'
      have htake : arr.toList.take (ln * i.size) = vs.take (ln * i.size) := by rw [hj, List.take_append_of_le_length hle]
      have hlncap : ln ≤ cap := by
        have : ln * i.size ≤ cap * i.size := by omega
        exact Nat.le_of_mul_le_mul_right this hsz0
      by_cases hroom : ln + q ≤ cap
      · have hfit : ln * i.size + news.length ≤ arr.size := by rw [hnl, hsize, ← Nat.add_mul]; exact Nat.mul_le_mul_right _ hroom
        have hr := run_append_room' (P := P) T o.type ty i hu hi (β i') ln (κ i') arr hc (a.eval t) q news hq hf hone' (by rw [hcap]; exact hroom) hfit
        rw [← hsv] at hr
        have h := hk cap hroom hcm
        unfold create at h
        cases hd : o.dst with
        | none => simp [hd] at h
        | some d =>
          simp only [hd] at h
          split at h
          · rename_i hdn
            refine wp_value (hex hr) ?_
            rw [hd]
            refine hK _ _ _ _ _ _ _ ((hs.sub hL').place hdn (g := β i') (c := cap) (x := .bs d (ln + q)) (bx := .arr ty (vs.take (ln * i.size) ++ news) cap) (setRow_heap w (β i') arr _ ty _ hc)
              (fun b hb _ => setRow_other w (β i') b _ hb) (Wd.setRow _ _ _) rfl rfl rfl hnv hgt (fun j b hj' hjd e => ?_) ?_ ?_) ?_ h
            · have hj2 := hL' j b hj'
              have := hs.inj j i' b _ hj2 hl e
              subst this
              rw [look_rem, if_pos rfl] at hj'
              cases hj'
            · show ∃ junk', _
              refine ⟨arr.toList.drop (ln * i.size + news.length), by simp [htake], by simp, hcm, fun s' hss => ?_⟩
              rw [hinfo s' hss]
              simp only [List.size_toArray, List.length_append, List.length_take, List.length_drop, Array.length_toList]
              omega
            · simp [Conc, hcap]
            · rw [hd]; exact keep_create a d _ _ _
          · exact h.elim
      · have hfo : (Builtin.firstCells i.size ln (.slice (some ⟨β i', 0, none⟩) ln (κ i'))).run P w.drew = .ok (vs.take (ln * i.size)).toArray w.drew := by
          refine run_firstCells_some w.drew i.size ln _ ln _ _ (by simp; omega) (fun k v hv => ?_)
          rw [add_lit0, World.cell?_drew, cell_of_row w (β i') _ arr _ _ hc]
          rw [← htake, List.getElem?_take] at hv
          split at hv
          · simpa using hv
          · cases hv
        exact grow _ ln (κ i') (vs.take (ln * i.size)) (rem L i') hL' hsv (by simp; omega) hfo (by omega) hml hby hk
    · exact h.elim
  · rename_i hevs
    rw [hevs] at hsv
    have hsv : a.eval s = .slice none 0 0 := hsv
    obtain ⟨hml, hby, hk0, hk⟩ := h
    rcases Nat.eq_zero_or_pos q with rfl | hpos
    · have hnews : news = [] := List.eq_nil_of_length_eq_zero (by simpa using hnl)
      subst hnews
      have hr : (Builtin.append_ #[T, T] o.type #[a.eval s, a.eval t]).run P w = .ok (.slice none 0 0) w := by
        rw [hsv]
        simp [Builtin.append_, run_underlying hu, sizeOf, typeInfo, hi, hq, hf]
      exact put_step hs (hex hr) (x := .c (.v _)) rfl (hk0 rfl) hK
    · refine grow none 0 0 [] L (fun _ _ h => h) hsv (by simp) (by simp [Builtin.firstCells]) (by omega) (by omega) (by simpa using hby) (fun cap' h1 h2 => ?_)
      have := hk hpos cap' (by omega) h2
      simpa using this
  · exact h.elim
end
end Go.Vc

namespace Go.Vc
open Go Go.RowKit
section
variable {P : Program} {n : Nat} {m0 w0 : World} {β κ : Nat → Nat} {f : Regs} {L : Lst} {m : World} {a : Act} {w : World}
  {K : K0} {Ka : Act → World → Prop} {Q : Exit → Act → World → Prop}

theorem len_run {o : Oper} {c : Call} {x : Operand} {T : Nat} (ho : o.op = .call c) (hc : c.callee = .builtin .len) (ha : c.args = #[x]) (ht : c.argTypes = #[T]) {k : Nat}
    (hv : (∃ b ln cp, a.eval x = .slice b ln cp ∧ k = ln ∧ ∃ e, P.underlying T = some (.slice e)) ∨ (∃ s, a.eval x = .string s ∧ k = s.size ∧ P.underlying T = some .string)) : (execOp a.eval o).run P w = .ok (.value (.int .i64 k)) w := by
  rcases hv with ⟨b, ln, cp, he, rfl, e, hu⟩ | ⟨s, he, rfl, hu⟩
  · simp [execOp, ho, resolve, hc, ha, ht, invoke, builtin, Builtin.len_, underlying_run hu, he, goInt]
  · simp [execOp, ho, resolve, hc, ha, ht, invoke, builtin, Builtin.len_, underlying_run hu, he, goInt]

theorem convBS_spec {s t : TypeId} (h : convBS P s t = true) : ∃ e, P.underlying s = some (.slice e) ∧ P.underlying e = some (.int .u8) ∧ P.underlying t = some .string := by
  unfold convBS at h
  split at h
  · rename_i e h1 h2
    split at h
    · rename_i h3; exact ⟨e, h1, h3, h2⟩
    · cases h
  · cases h
theorem conv_run {o : Oper} {s t : TypeId} {x : Operand} (ho : o.op = .convert s t x) (hc : convBS P s t = true) {ad : Addr} {ln cp : Nat} (he : a.eval x = .slice (some ad) ln cp) {bs : List UInt8} (hl : bs.length = ln)
    (hb : ∀ j b, bs[j]? = some b → w.cell? (ad.add j) = some (.int .u8 (b.toNat : Int))) : (execOp a.eval o).run P w = .ok (.value (.string ⟨bs.toArray⟩)) w := by
  obtain ⟨e, h1, h2, h3⟩ := convBS_spec hc
  subst hl
  have := run_convert_bytes_back (P := P) w s t e ad cp bs h1 h2 h3 (fun j hj => hb j _ (List.getElem?_eq_getElem hj))
  simp [execOp, ho, he, this]

theorem arr1 {α : Type} {xs : Array α} {x : α} (h : xs.toList = [x]) : xs = #[x] := by rw [← Array.toArray_toList (xs := xs), h]
theorem arr2 {α : Type} {xs : Array α} {x y : α} (h : xs.toList = [x, y]) : xs = #[x, y] := by rw [← Array.toArray_toList (xs := xs), h]
theorem map1 {α γ : Type} {g : α → γ} {l : List α} {y : γ} (h : l.map g = [y]) : ∃ x, l = [x] ∧ g x = y := by
  cases l with
  | nil => simp at h
  | cons x r => cases r with
    | nil => simp at h; exact ⟨x, rfl, h⟩
    | cons _ _ => simp at h
theorem map2 {α γ : Type} {g : α → γ} {l : List α} {y z : γ} (h : l.map g = [y, z]) : ∃ x u, l = [x, u] ∧ g x = y ∧ g u = z := by
  cases l with
  | nil => simp at h
  | cons x r => cases r with
    | nil => simp at h
    | cons u r => cases r with
      | nil => simp at h; exact ⟨x, u, rfl, h.1, h.2⟩
      | cons _ _ => simp at h

end
end Go.Vc

namespace Go.Vc
open Go Go.RowKit

/-- What stood stands as it was. -/
def Stay (w w' : World) : Prop := w.heap.size ≤ w'.heap.size ∧ ∀ b, b < w.heap.size → w'.heap[b]? = w.heap[b]?
theorem Stay.refl (w : World) : Stay w w := ⟨Nat.le_refl _, fun _ _ => rfl⟩
theorem Stay.trans {a b c : World} (h : Stay a b) (k : Stay b c) : Stay a c := ⟨Nat.le_trans h.1 k.1, fun i hi => (k.2 i (Nat.lt_of_lt_of_le hi h.1)).trans (h.2 i hi)⟩
theorem Stay.alloc (w : World) (o : Obj) : Stay w (w.alloc o) := ⟨by simp, fun _ hb => Go.heap_alloc_old w o hb⟩
theorem Stay.cell {w w' : World} (h : Stay w w') {ad : Addr} {v : Value} (hc : w.cell? ad = some v) : w'.cell? ad = some v := by
  have hv := vis_of_cell hc
  have hb : ad.block < w.heap.size := by obtain ⟨o, ho, _⟩ := hv; exact (Array.getElem?_eq_some_iff.1 ho).1
  have := h.2 ad.block hb
  unfold World.cell? at *
  rw [this]; exact hc

section
variable {P : Program} {n : Nat} {m0 w0 : World} {β κ : Nat → Nat} {f : Regs} {L : Lst} {m : World} {a : Act} {w : World}
  {K : K0} {Ka : Act → World → Prop} {Q : Exit → Act → World → Prop}

def Sw (o : Oper) (w w' : World) : Prop := lodO o = true → Stay w w'
/-- The operation yields one value in all such worlds. -/
def Yv (P : Program) (n : Nat) (o : Oper) (a : Act) (w : World) (β κ : Nat → Nat) (f : Regs) (L : Lst) (m : World) (K : K0) : Prop :=
  ∃ x v, (∀ w', Sw o w w' → (execOp a.eval o).run P w' = .ok (.value v) w') ∧ ConcS β κ x v ∧ K (put n f o.dst x) L m

theorem yv_put {o : Oper} {x : SV} {v : Value} (hr : ∀ w', Sw o w w' → (execOp a.eval o).run P w' = .ok (.value v) w') (hv : ConcS β κ x v)
    (h : K (put n f o.dst x) L m) : Yv P n o a w β κ f L m K := ⟨x, v, hr, hv, h⟩
theorem yv_pure {o : Oper} {s : Sem Value} (hr : ∀ w, (execOp a.eval o).run P w = ((do pure (Next.value (← s)) : Sem Next).run P w))
    (h : vcPure P n o.dst s K f L m) : Yv P n o a w β κ f L m K := by
  obtain ⟨v, hv, hk⟩ := h
  exact yv_put (fun w' _ => by rw [hr]; exact run_v (hv w')) (x := .c (.v v)) rfl hk

theorem load_yv {o : Oper} {t : TypeId} {x : Operand} (ho : o.op = .load t x) (hs : Sim P n m0 w0 β κ f L m a w)
    (h : vcLoad P n o.dst t (ev f x) K f L m) : Yv P n o a w β κ f L m K := by
  have hx := ev_conc hs x
  have hlod : lodO o = true := by simp [lodO, ho]
  have hrun : ∀ {ad v w'}, a.eval x = .pointer (some ad) → (loadVar t ad).run P w' = .ok v w' → (execOp a.eval o).run P w' = .ok (.value v) w' := by
    intro ad v w' he hr
    simp [execOp, ho, Instr.loadAt, Instr.sureAddr, he, hr]
  unfold vcLoad at h
  split at h
  · rename_i i off hev
    rw [hev] at hx
    have hx : a.eval x = .pointer (some ⟨β i, off, none⟩) := hx
    split at h
    · rename_i ty cs hl
      obtain ⟨⟨arr, hc, hh⟩, _, _⟩ := hs.boxes i _ hl
      have hh : ConcL β κ cs arr.toList := hh
      have hcell : ∀ j v, arr.toList[j]? = some v → w.cell? ⟨β i, j, none⟩ = some v := fun j v hj => by rw [cell_of_row w (β i) j arr _ _ hc]; simpa using hj
      split at h
      · rename_i ht
        split at h
        · rename_i c hcs
          obtain ⟨v, hv, hcv⟩ := concL_get hh hcs
          exact yv_put (fun w' hw => hrun hx (run_loadVar_one ht ((hw hlod).cell (hcell _ _ hv)))) (x := .c c) hcv h
        · exact h.elim
      · rename_i k ht
        split at h
        · rename_i hle
          have hlen : cs.length = arr.size := by simpa using concL_length hh
          have hcl := concL_take (concL_drop hh off) k
          refine yv_put (fun w' hw => hrun hx (run_loadVar_agg ht (vs := (arr.toList.drop off).take k) (by simp; omega) (fun j v hj => ?_))) (mkAg_conc hcl) h
          rw [add_lit0]
          rw [List.getElem?_take] at hj
          split at hj
          · exact (hw hlod).cell (hcell _ _ (by simpa using hj))
          · cases hj
        · exact h.elim
      · exact h.elim
    · rename_i ty vs cap hl
      obtain ⟨⟨arr, hc, junk, hj, _⟩, _, _⟩ := hs.boxes i _ hl
      have hcell : ∀ j v, vs[j]? = some v → w.cell? ⟨β i, j, none⟩ = some v := fun j v hv => by
        rw [cell_of_row w (β i) j arr _ _ hc]
        have : arr.toList[j]? = some v := by rw [hj, List.getElem?_append_left (by simpa using (List.getElem?_eq_some_iff.1 hv).1)]; exact hv
        simpa using this
      split at h
      · rename_i ht
        obtain ⟨v, hv, hk⟩ := h
        exact yv_put (fun w' hw => hrun hx (run_loadVar_one ht ((hw hlod).cell (hcell _ _ hv)))) (x := .c (.v v)) rfl hk
      · rename_i k ht
        obtain ⟨hle, hk⟩ := h
        refine yv_put (fun w' hw => hrun hx (run_loadVar_agg ht (vs := (vs.drop off).take k) (by simp; omega) (fun j v hj => ?_))) (x := .c (.v _)) rfl hk
        rw [add_lit0]
        rw [List.getElem?_take] at hj
        split at hj
        · exact (hw hlod).cell (hcell _ _ (by simpa using hj))
        · cases hj
      · exact h.elim
    · exact h.elim
  · rename_i ad hev
    rw [hev] at hx
    have hx : a.eval x = .pointer (some ad) := hx
    unfold LoadM at h
    split at h
    · rename_i ht
      obtain ⟨v, hv, hk⟩ := h
      exact yv_put (fun w' hw => hrun hx (run_loadVar_one ht ((hw hlod).cell (hs.under.cell hv)))) (x := .c (.v v)) rfl hk
    · rename_i k ht
      obtain ⟨vs, hl, hv, hk⟩ := h
      exact yv_put (fun w' hw => hrun hx (run_loadVar_agg ht hl (fun j v hj => (hw hlod).cell (hs.under.cell (hv j v hj))))) (x := .c (.v _)) rfl hk
    · exact h.elim
  · exact h.elim

theorem fieldAddr_yv {o : Oper} {T k : Nat} {x : Operand} (ho : o.op = .fieldAddr T x k) (hs : Sim P n m0 w0 β κ f L m a w)
    (h : vcOp P n o K f L m) : Yv P n o a w β κ f L m K := by
  simp only [vcOp, ho] at h
  have hx := ev_conc hs x
  split at h
  · rename_i i off hev
    rw [hev] at hx
    have hx : a.eval x = .pointer (some ⟨β i, off, none⟩) := hx
    split at h
    · rename_i q hq
      exact yv_put (v := .pointer (some ⟨β i, off + q, none⟩)) (fun w' _ => by
        have hr := fieldOff_spec hq ⟨β i, off, none⟩ w'
        rw [add_lit0] at hr
        simp [execOp, ho, hx, hr]) (x := .c (.bp i (off + q))) rfl h
    · exact h.elim
  · rename_i v hev
    rw [hev] at hx
    have hx : a.eval x = v := hx
    exact yv_pure (fun w => by simp [execOp, ho, hx]) h
  · exact h.elim

theorem indexAddr_yv {o : Oper} {T : Nat} {x i : Operand} (ho : o.op = .indexAddr T x i) (hs : Sim P n m0 w0 β κ f L m a w)
    (h : vcOp P n o K f L m) : Yv P n o a w β κ f L m K := by
  simp only [vcOp, ho] at h
  have hx := ev_conc hs x
  have hi := ev_conc hs i
  split at h
  case h_2 => exact h.elim
  rename_i kd k e sz by' hev hel
  rw [hev] at hi
  have hi : a.eval i = .int kd k := hi
  obtain ⟨hu, inf, hinf, hsz, _⟩ := elemS_spec hel
  have hrun : ∀ (ad : Addr) (ln cp : Nat) (w : World), a.eval x = .slice (some ad) ln cp → 0 ≤ k → k < ln → (execOp a.eval o).run P w = .ok (.value (.pointer (some (ad.add (k.toNat * sz))))) w := by
    intro ad ln cp w he h0 h1
    simp [execOp, ho, Instr.indexAt, hi, asIntOf, underlying_run hu, he, h0, h1, sizeOf, typeInfo, hinf, hsz]
  split at h
  · rename_i j ln hev'
    rw [hev'] at hx
    obtain ⟨h0, h1, h⟩ := h
    have hx : a.eval x = .slice (some ⟨β j, 0, none⟩) ln (κ j) := hx
    refine yv_put (v := .pointer (some ⟨β j, k.toNat * sz, none⟩)) (fun w' _ => ?_) (x := .c (.bp j (k.toNat * sz))) rfl h
    have hr := hrun _ _ _ w' hx h0 h1
    rw [add_lit0, Nat.zero_add] at hr
    exact hr
  · rename_i ad ln cp hev'
    rw [hev'] at hx
    obtain ⟨h0, h1, ad', rfl, h⟩ := h
    exact yv_put (fun w' _ => hrun _ _ _ w' hx h0 h1) (x := .c (.v _)) rfl h
  · exact h.elim

theorem build_yv {o : Oper} {t : TypeId} {parts : Array (Nat × Operand)} (ho : o.op = .build t parts) (hs : Sim P n m0 w0 β κ f L m a w)
    (h : vcOp P n o K f L m) : Yv P n o a w β κ f L m K := by
  simp only [vcOp, ho] at h
  split at h
  case h_2 => exact h.elim
  rename_i z pl hz hpl
  split at h
  case h_2 => exact h.elim
  rename_i cs hcs
  have hzz := fun w => zeroC_run (P := P) hz w
  unfold placesS at hpl
  split at hpl
  case h_2 => cases hpl
  rename_i fs hfs
  have hrp := fun w => run_mapM_places (P := P) fs.toList pl w hpl
  obtain ⟨v, hv0, hc⟩ := hzz w
  have hv : ∀ w', (zeroValue t).run P w' = .ok v w' := fun w' => by
    obtain ⟨v', hv', hc'⟩ := hzz w'
    simp only [zeroValue, typeInfo, Sem.run_bind, run_program, Result.andThen_ok] at hv0 hv' ⊢
    cases hi : P.info? t with
    | none => simp [hi] at hv0
    | some i =>
      cases hzi : i.zero with
      | none => simp [hi, hzi] at hv0
      | some q => simp [hi, hzi] at hv0 ⊢; exact hv0
  have hzc : ConcL β κ (z.map .v) v.cells.toList := by rw [hc]; exact concL_vals _ _ _
  obtain ⟨arr, h1, h2⟩ := fill_conc (β := β) (κ := κ) (f := f) (a := a) parts.toList (arr := v.cells) (place := (pl.toArray[·]?)) (fun i => by simp) (ev_conc hs) hzc hcs
  have hrun : ∀ w', (execOp a.eval o).run P w' = .ok (.value (.agg arr)) w' := by
    intro w'
    have hm : (fs.mapM (fun f => do pure (f.offset, ← sizeOf f.type) : Field → Sem (Nat × Nat))).run P w' = .ok pl.toArray w' := by
      rw [← Array.toArray_toList (xs := fs), List.mapM_toArray]
      simp only [Sem.run_map, hrp, Result.andThen_ok]
    have hpt : (parts.map fun (x : Nat × Operand) => (x.1, a.eval x.2)).toList = parts.toList.map fun p => (p.1, a.eval p.2) := by simp
    simp only [execOp, ho, Instr.build, Sem.run_bind, hv, Result.andThen_ok, underlying_run hfs, hm, hpt, h1]
    rfl
  have : arr = arr.toList.toArray := by simp
  rw [this] at hrun
  exact yv_put (fun w' _ => hrun w') (mkAg_conc h2) h

theorem take_yv {o : Oper} (hs : Sim P n m0 w0 β κ f L m a w) (h : vcOp P n o K f L m) (ht : takeO o = true) : Yv P n o a w β κ f L m K := by
  cases ho : o.op
  case move x =>
    simp only [vcOp, ho] at h
    exact yv_put (fun w' _ => by simp [execOp, ho]) (ev_conc hs x) h
  case assign x =>
    simp only [vcOp, ho] at h
    exact yv_put (fun w' _ => by simp [execOp, ho]) (ev_conc hs x) h
  case pick c x y =>
    simp only [vcOp, ho] at h
    have hc := ev_conc hs c
    split at h
    · rename_i t hev
      rw [hev] at hc
      have hc : a.eval c = .bool t := hc
      cases t with
      | true => exact yv_put (fun w' _ => by simp [execOp, ho, hc, asBool]) (ev_conc hs x) (h.1 rfl)
      | false => exact yv_put (fun w' _ => by simp [execOp, ho, hc, asBool]) (ev_conc hs y) (h.2 rfl)
    · exact h.elim
  case build t ps => exact build_yv ho hs h
  case load t x => simp only [vcOp, ho] at h; exact load_yv ho hs h
  case fieldAddr T x k => exact fieldAddr_yv ho hs h
  case indexAddr T x i => exact indexAddr_yv ho hs h
  case nilCheck x =>
    simp only [vcOp, ho] at h
    have hx := ev_conc hs x
    split at h
    · rename_i ad hev
      rw [hev] at hx
      have hx' : a.eval x = .pointer (some ad) := hx
      exact yv_put (fun w' _ => by simp [execOp, ho, hx']) (x := .c (.v _)) rfl h
    · rename_i i off hev
      rw [hev] at hx
      have hx' : a.eval x = .pointer (some ⟨β i, off, none⟩) := hx
      exact yv_put (v := .pointer (some ⟨β i, off, none⟩)) (fun w' _ => by simp [execOp, ho, hx']) (x := .c (.bp i off)) rfl h
    · rename_i g fi ca hev
      rw [hev] at hx
      have hx' : a.eval x = .func (.func g) fi ca := hx
      exact yv_put (fun w' _ => by simp [execOp, ho, hx']) (x := .c (.v _)) rfl h
    · exact h.elim
  case call c =>
    simp only [takeO, ho] at ht
    simp only [vcOp, ho] at h
    split at ht
    case h_2 => cases ht
    rename_i hg
    simp only [hg] at h
    split at h
    case h_2 => exact h.elim
    rename_i sx T hx hT
    obtain ⟨x, hxl, rfl⟩ := map1 hx
    have ha := arr1 hxl
    have ht := arr1 hT
    have hev := ev_conc hs x
    have len1 : lenK P T = 1 → ∃ e, P.underlying T = some (.slice e) := fun hl => by
      unfold lenK at hl
      split at hl
      · rename_i e he; exact ⟨e, he⟩
      · cases hl
      · cases hl
    have len2 : lenK P T = 2 → P.underlying T = some .string := fun hl => by
      unfold lenK at hl
      split at hl
      · cases hl
      · assumption
      · cases hl
    split at h
    · rename_i j ln he
      rw [he] at hev
      obtain ⟨hl, h⟩ := h
      have hev : a.eval x = .slice (some ⟨β j, 0, none⟩) ln (κ j) := hev
      exact yv_put (fun w' _ => len_run ho hg ha ht (.inl ⟨_, _, _, hev, rfl, len1 hl⟩)) (x := .c (.v _)) rfl h
    · rename_i b ln cp he
      rw [he] at hev
      obtain ⟨hl, h⟩ := h
      exact yv_put (fun w' _ => len_run ho hg ha ht (.inl ⟨_, _, _, hev, rfl, len1 hl⟩)) (x := .c (.v _)) rfl h
    · rename_i s he
      rw [he] at hev
      obtain ⟨hl, h⟩ := h
      exact yv_put (fun w' _ => len_run ho hg ha ht (.inr ⟨_, hev, rfl, len2 hl⟩)) (x := .c (.v _)) rfl h
    · exact h.elim
  case binOp op t x y t' =>
    simp only [vcOp, ho] at h
    have hx := ev_conc hs x
    have hy := ev_conc hs y
    split at h
    · rename_i va vb h1 h2
      rw [h1] at hx
      rw [h2] at hy
      have hx : a.eval x = va := hx
      have hy : a.eval y = vb := hy
      exact yv_pure (fun w => by simp [execOp, ho, hx, hy]) h
    · exact h.elim
  case unOp op t x =>
    simp only [vcOp, ho] at h
    have hx := ev_conc hs x
    split at h
    · rename_i va h1
      rw [h1] at hx
      have hx : a.eval x = va := hx
      exact yv_pure (fun w => by simp [execOp, ho, hx]) h
    · exact h.elim
  case convert s t x =>
    simp only [vcOp, ho] at h
    have hx := ev_conc hs x
    have hlod : lodO o = true := by simp [lodO, ho]
    split at h
    · rename_i ad ln cp h1
      rw [h1] at hx
      have hx : a.eval x = .slice (some ad) ln cp := hx
      obtain ⟨hc, bs, hl, hb, hk⟩ := h
      exact yv_put (fun w' hw => conv_run ho hc hx hl fun j b hj => (hw hlod).cell (hs.under.cell (hb j b hj))) (x := .c (.v _)) rfl hk
    · rename_i i ln h1
      rw [h1] at hx
      have hx : a.eval x = .slice (some ⟨β i, 0, none⟩) ln (κ i) := hx
      obtain ⟨hc, h⟩ := h
      split at h
      case h_2 => exact h.elim
      rename_i ty vs cap hlk
      obtain ⟨bs, hl, hb, hk⟩ := h
      obtain ⟨⟨arr, hrow, junk, hj, _⟩, _, _⟩ := hs.boxes i _ hlk
      refine yv_put (fun w' hw => conv_run ho hc hx hl fun j b hjb => (hw hlod).cell ?_) (x := .c (.v _)) rfl hk
      rw [add_lit0, Nat.zero_add, cell_of_row w (β i) j arr _ _ hrow]
      have hv := hb j b hjb
      have : arr.toList[j]? = some (.int .u8 (b.toNat : Int)) := by rw [hj, List.getElem?_append_left (List.getElem?_eq_some_iff.1 hv).1]; exact hv
      simpa using this
    · rename_i va h1 h2
      rw [h2] at hx
      have hx : a.eval x = va := hx
      exact yv_pure (fun w => by simp [execOp, ho, hx]) h
    · exact h.elim
  case extract x i =>
    simp only [vcOp, ho] at h
    have hx := ev_conc hs x
    split at h
    · rename_i va h1
      rw [h1] at hx
      have hx : a.eval x = va := hx
      exact yv_pure (fun w => by simp [execOp, ho, hx]) h
    · exact h.elim
  case index T x i =>
    simp only [vcOp, ho] at h
    have hx := ev_conc hs x
    have hy := ev_conc hs i
    split at h
    · rename_i va vb h1 h2
      rw [h1] at hx
      rw [h2] at hy
      have hx : a.eval x = va := hx
      have hy : a.eval i = vb := hy
      exact yv_pure (fun w => by simp [execOp, ho, hx, hy]) h
    · exact h.elim
  all_goals (simp only [takeO, ho] at ht; cases ht)
end
end Go.Vc

namespace Go.Vc
open Go Go.RowKit
section
variable {P : Program} {n : Nat} {m0 w0 : World} {β κ : Nat → Nat} {f : Regs} {L : Lst} {m : World} {a : Act} {w : World}
  {K : K0} {Ka : Act → World → Prop} {Q : Exit → Act → World → Prop}

variable {ops : Array Oper}

def wpAnyB (P : Program) (ops : Array Oper) (ex : Oper → Bool) (Q : Exit → Act → World → Prop) : Nat → Array Bool → Act → World → Prop
  | 0, listed, a, w => Region.ready .any ops listed = [] ∧ Q .normal a w
  | fuel + 1, listed, a, w =>
    (Region.ready .any ops listed = [] → Q .normal a w) ∧
    ∀ i ∈ Region.ready .any ops listed, wpOp P ops Q i (fun a' w' => ((∃ o, ops[i]? = some o ∧ ex o = true) ∨ Stay w w') ∧ wpAnyB P ops ex Q fuel (listed.setIfInBounds i true) a' w') a w

theorem wpAny_of_B {ex : Oper → Bool} : ∀ (fuel : Nat) (listed : Array Bool) (a : Act) (w : World), wpAnyB P ops ex Q fuel listed a w → wpAny P .any ops Q fuel listed a w
  | 0, _, _, _, h => h
  | fuel + 1, _, _, _, h => ⟨h.1, fun i hi => wpOp_mono (fun a' w' h' => wpAny_of_B fuel _ a' w' h'.2) (h.2 i hi)⟩

/-- What is listed has what it waits for listed. -/
def Closed (ops : Array Oper) (listed : Array Bool) : Prop := ∀ k o, ops[k]? = some o → listed.getD k true = true → ∀ e ∈ o.after, Region.binds .any e = true → listed.getD e.on false = true

theorem getD_tf {listed : Array Bool} {k : Nat} (h : listed.getD k false = true) : listed.getD k true = true := by
  rw [Array.getD_eq_getD_getElem?] at *
  cases hk : listed[k]? with
  | none => simp
  | some b => simp [hk] at h ⊢; exact h
theorem getD_set_mono {listed : Array Bool} {i k : Nat} (h : listed.getD k false = true) : (listed.setIfInBounds i true).getD k false = true := by
  rw [Array.getD_eq_getD_getElem?] at *
  rw [Array.getElem?_setIfInBounds]
  split
  · split
    · simp
    · rename_i hik hlt; subst hik; simp [Array.getElem?_eq_none (Nat.le_of_not_lt hlt)] at h
  · exact h
theorem Closed.set {listed : Array Bool} (h : Closed ops listed) {i : Nat} (hr : i ∈ Region.ready .any ops listed) : Closed ops (listed.setIfInBounds i true) := by
  intro k o hk hl e he hb
  refine getD_set_mono ?_
  by_cases hki : k = i
  · subst hki
    obtain ⟨_, oj, hoj, hall⟩ := mem_ready.1 hr
    rw [hk] at hoj; injection hoj with hoj; subst hoj
    exact hall e he hb
  · exact h k o hk (by rw [getD_set_ne true (fun e => hki e.symm)] at hl; exact hl) e he hb

theorem desc_listed {listed : Array Bool} (hc : Closed ops listed) {i : Nat} : ∀ (fuel k : Nat), desc ops i fuel k = true → listed.getD k false = true → listed.getD i false = true
  | 0, _, h, _ => by simp [desc] at h
  | fuel + 1, k, h, hl => by
    simp only [desc, Bool.or_eq_true, beq_iff_eq] at h
    rcases h with rfl | h
    · exact hl
    · split at h
      · rename_i o ho
        obtain ⟨e, he, hb⟩ := Array.any_eq_true'.1 h
        simp only [Bool.and_eq_true] at hb
        exact desc_listed hc fuel e.on hb.2 (hc k o ho (getD_tf hl) e he hb.1)
      · cases h
theorem desc_ready {listed : Array Bool} (hc : Closed ops listed) {i j fuel : Nat} (hr : j ∈ Region.ready .any ops listed) (hj : j ≠ i) (h : desc ops i fuel j = true) : listed.getD i false = true := by
  cases fuel with
  | zero => simp [desc] at h
  | succ fuel =>
    obtain ⟨_, oj, hoj, hall⟩ := mem_ready.1 hr
    simp only [desc, Bool.or_eq_true, beq_iff_eq, hj, false_or, hoj] at h
    obtain ⟨e, he, hb⟩ := Array.any_eq_true'.1 h
    simp only [Bool.and_eq_true] at hb
    exact desc_listed hc fuel e.on hb.2 (hall e he hb.1)

theorem ready_not {listed : Array Bool} {i : Nat} (hr : i ∈ Region.ready .any ops listed) : listed.getD i false ≠ true := by
  intro h
  have h0 := (mem_ready.1 hr).1
  rw [getD_tf h] at h0
  cases h0

theorem wpAnyB_first {ex : Oper → Bool} {i : Nat} {oi : Oper} {v : Value} (hi : ops[i]? = some oi) (hsel : ∀ (j : Nat) (o : Oper) cs b, ops[j]? = some o → o.op ≠ .select cs b)
    (hQ : ∀ c a w, Q (.panic c) (a.put oi.dst v) w → Q (.panic c) a w) :
    ∀ (fuel : Nat) (listed : Array Bool) (a : Act) (w : World), Closed ops listed →
      (∀ j oj, ops[j]? = some oj → j ≠ i → listed.getD j true = false → (∀ e ∈ oj.after, Region.binds .any e = true → e.on ≠ i) → oi.apart ops oj = true) →
      (lodO oi = true → ∀ j oj, ops[j]? = some oj → listed.getD j true = false → ex oj = true → desc ops i ops.size j = true) →
      i ∈ Region.ready .any ops listed → YieldsIf P ops (Sw oi w) oi v a →
      wpAnyB P ops ex Q fuel (listed.setIfInBounds i true) (a.put oi.dst v) w → wpAnyB P ops ex Q (fuel + 1) listed a w := by
  intro fuel
  induction fuel with
  | zero =>
    intro listed a w _ _ _ hr hy H
    refine ⟨fun h => (by rw [h] at hr; cases hr), fun j hj => ?_⟩
    by_cases hji : j = i
    · subst hji; exact hy.wpOp hi (fun _ => Stay.refl w) ⟨.inr (Stay.refl w), H⟩
    · have := ready_mono hj hji
      rw [H.1] at this
      cases this
  | succ fuel ih =>
    intro listed a w hcl hfree hex hr hy H
    refine ⟨fun h => (by rw [h] at hr; cases hr), fun j hj => ?_⟩
    by_cases hji : j = i
    · subst hji; exact hy.wpOp hi (fun _ => Stay.refl w) ⟨.inr (Stay.refl w), H⟩
    · have h1 := H.2 j (ready_mono hj hji)
      obtain ⟨hjun, oj, hoj, hall⟩ := mem_ready.1 hj
      have hnot : ∀ e ∈ oj.after, Region.binds .any e = true → e.on ≠ i := fun e he hb heq => ready_not hr (heq ▸ hall e he hb)
      have h2 := wpOp_putIf hoj (hfree j oj hoj hji hjun hnot) (fun cs b => hsel i oi cs b hi) (fun cs b => hsel j oj cs b hoj) hQ hy h1
      have hun' : ∀ k, (listed.setIfInBounds j true).getD k true = false → listed.getD k true = false := fun k hun => by
        by_cases hjk : j = k
        · subst hjk; exact hjun
        · rw [getD_set_ne true hjk] at hun; exact hun
      refine wpOp_mono (fun a' w' h3 => ?_) h2
      obtain ⟨hy', hst, hrest⟩ := h3
      have hst' : lodO oi = true → Stay w w' := fun hl => by
        rcases hst with ⟨o, ho, hx⟩ | hst
        · rw [hoj] at ho; injection ho with ho; subst ho
          exact absurd (desc_ready hcl hj hji (hex hl j oj hoj hjun hx)) (ready_not hr)
        · exact hst
      have hy'' : YieldsIf P ops (Sw oi w') oi v a' := hy'.imp (fun ⟨p, q⟩ => ⟨p, fun w'' hw => q w'' fun hl => (hst' hl).trans (hw hl)⟩) id
      refine ⟨hst, ih (listed.setIfInBounds j true) a' w' (hcl.set hj) (fun k ok hk hki hun hno => hfree k ok hk hki (hun' k hun) hno)
        (fun hl k ok hk hun hx => hex hl k ok hk (hun' k hun) hx) (ready_mono hr (Ne.symm hji)) hy'' ?_⟩
      rw [Array.setIfInBounds_comm _ _ hji]
      exact hrest
end
end Go.Vc

namespace Go.Vc
open Go Go.RowKit
section
variable {P : Program} {n : Nat} {m0 w0 : World} {β κ : Nat → Nat} {f : Regs} {L : Lst} {m : World} {a : Act} {w : World}
  {K : K0} {Q : Exit → Act → World → Prop} {ops : Array Oper}

theorem dst_mem_l : ∀ {l : List Oper} {i : Nat} {o : Oper}, l[i]? = some o → ∀ j ∈ o.dst.toList, j ∈ dstsOps l
  | [], _, _, h, _, _ => by simp at h
  | x :: r, 0, o, h, j, hj => by simp at h; subst h; cases hd : x.dst <;> simp_all [dstsOps]
  | x :: r, i + 1, o, h, j, hj => by
    have := dst_mem_l (l := r) (by simpa using h) j hj
    cases hd : x.dst <;> simp_all [dstsOps]
theorem dst_mem {i : Nat} {o : Oper} (h : ops[i]? = some o) : ∀ j ∈ o.dst.toList, j ∈ dstsOps ops.toList := dst_mem_l (by simpa using h)

theorem closed_start : Closed ops (Array.replicate ops.size false) := fun k o hk hl => by
  have := (Array.getElem?_eq_some_iff.1 hk).1
  simp [Array.getD_eq_getD_getElem?, this] at hl

end
end Go.Vc

namespace Go.Vc
open Go Go.RowKit
section
variable {P : Program} {xs : List Nat} {n : Nat} {m0 w0 : World} {β κ : Nat → Nat} {f : Regs} {L : Lst} {m : World} {a : Act} {w : World}
  {K : K0} {Q : Exit → Act → World → Prop} {ops : Array Oper}

/-! ### Makers that are put off -/
open Classical in
/-- A later base: what the first guards it guards, as it was. -/
structure Fin (m0 w0 mB wB : World) : Prop where
  wd : Wd w0 wB
  gd : ∀ b, b < w0.heap.size → ¬ vis m0 b → ¬ vis mB b ∧ wB.heap[b]? = w0.heap[b]?
theorem Fin.refl (m0 w0 : World) : Fin m0 w0 m0 w0 := ⟨Wd.refl _, fun _ _ h => ⟨h, rfl⟩⟩
theorem Fin.back {mB wB : World} (h : Fin m0 w0 mB wB) (hs : Sim P n mB wB β κ f L m a w) : Sim P n m0 w0 β κ f L m a w :=
  ⟨hs.size, hs.defers, hs.slots, fun i bx hl => by
    obtain ⟨h1, h2, h3⟩ := hs.boxes i bx hl
    refine ⟨h1, h2, fun hlt => ?_⟩
    by_cases hv : vis m0 (β i)
    · exact hv
    · exact absurd (h3 (Nat.lt_of_lt_of_le hlt h.wd.1)) (h.gd _ hlt hv).1, hs.inj, hs.under, h.wd.trans hs.sizes, fun b hb hv => by
    obtain ⟨h1, h2⟩ := h.gd b hb hv
    obtain ⟨h3, h4⟩ := hs.frame b (Nat.lt_of_lt_of_le hb h.wd.1) h1
    exact ⟨h3.trans h2, h4⟩⟩

structure CSpec (P : Program) (o : Oper) (bx : Box) (mk : Nat → CV) (c : Nat) (cs : Array Value) (mv : Nat → Value) : Prop where
  run : ∀ (a : Act) (w : World), (execOp a.eval o).run P w = .ok (.value (mv w.heap.size)) (w.alloc (.cells cs bx.ty))
  holds : ∀ (β κ : Nat → Nat) (g d : Nat), Holds P (fun j => if j = d then g else β j) (fun j => if j = d then c else κ j) d (killB d bx) cs
  conc : ∀ (β κ : Nat → Nat) (g d : Nat), Conc (fun j => if j = d then g else β j) (fun j => if j = d then c else κ j) (mk d) (mv g)
  sym : ∀ (n : Nat) (K : K0) (f : Regs) (L : Lst) (m : World), vcOp P n o K f L m → create n o.dst bx mk K f L m

/-- What is made already, at block g. -/
def Made (P : Program) (ops : Array Oper) (w0 mB wB : World) (k g : Nat) (a : Act) : Prop :=
  ∃ o d bx mk c cs mv, ops[k]? = some o ∧ o.dst = some d ∧ CSpec P o bx mk c cs mv ∧ a.tmps.getD d undef = mv g ∧ d < a.tmps.size ∧ w0.heap.size ≤ g ∧ g < wB.heap.size ∧ ¬ vis mB g ∧ wB.heap[g]? = some (.cells cs bx.ty (0, 0))
/-- The state of a walk with makers put off: S is listed by the plan, M by the machine. -/
structure InvL (P : Program) (n : Nat) (ops : Array Oper) (m0 w0 : World) (lt : List Nat) (S M : Array Bool) (mB wB : World) (g : Nat → Nat) (β κ : Nat → Nat) (f : Regs) (L : Lst) (m : World) (a : Act) (w : World) : Prop where
  sim : Sim P n mB wB β κ f L m a w
  fin : Fin m0 w0 mB wB
  closed : Closed ops M
  sizeS : S.size = ops.size
  sizeM : M.size = ops.size
  sub : ∀ k, S.getD k false = true → M.getD k false = true
  sup : ∀ k, M.getD k false = true → S.getD k false = true ∨ k ∈ lt
  late : ∀ k ∈ lt, S.getD k true = false ∧ alone ops k = true ∧ (∃ o, ops[k]? = some o ∧ (∃ d, o.dst = some d ∧ d < n) ∧ lateO o = true ∧ (∀ e ∈ o.after, Region.binds .any e = true → S.getD e.on false = true) ∧ ∃ bx mk c cs mv, CSpec P o bx mk c cs mv)
  made : ∀ k ∈ lt, M.getD k false = true → Made P ops w0 mB wB k (g k) a
  inj : ∀ k k', k ∈ lt → k' ∈ lt → M.getD k false = true → M.getD k' false = true → g k = g k' → k = k'

variable {lt : List Nat} {S M : Array Bool} {mB wB : World} {g : Nat → Nat}
theorem getD_ft {A : Array Bool} {k : Nat} (hk : k < A.size) : A.getD k true = A.getD k false := by
  simp [Array.getD_eq_getD_getElem?, hk]
theorem InvL.ready (h : InvL P n ops m0 w0 lt S M mB wB g β κ f L m a w) {i : Nat} (hl : i ∉ lt) (hr : i ∈ Region.ready .any ops S) : i ∈ Region.ready .any ops M := by
  rw [mem_ready] at *
  obtain ⟨h0, o, ho, ha⟩ := hr
  refine ⟨?_, o, ho, fun e he hb => h.sub _ (ha e he hb)⟩
  have hi : i < ops.size := (Array.getElem?_eq_some_iff.1 ho).1
  rw [getD_ft (by rw [h.sizeM]; exact hi)]
  cases hm : M.getD i false with
  | false => rfl
  | true =>
    rcases h.sup i hm with hs | hs
    · rw [getD_ft (by rw [h.sizeS]; exact hi)] at h0; rw [hs] at h0; cases h0
    · exact absurd hs hl
theorem alone_spec {i j : Nat} {oi oj : Oper} (h : alone ops i = true) (hi : ops[i]? = some oi) (hj : ops[j]? = some oj) (hne : j ≠ i) : oj.dst ≠ oi.dst := by
  simp only [alone, hi, List.all_eq_true, List.mem_range] at h
  have := h j (Array.getElem?_eq_some_iff.1 hj).1
  simp only [hj, Bool.or_eq_true, beq_iff_eq, hne, false_or, bne_iff_ne, ne_eq] at this
  exact this
theorem made_put {k gk : Nat} {a' : Act} (h : Made P ops w0 mB wB k gk a) (ht : ∀ o d, ops[k]? = some o → o.dst = some d → a'.tmps.getD d undef = a.tmps.getD d undef) (hs : a'.tmps.size = a.tmps.size) : Made P ops w0 mB wB k gk a' := by
  obtain ⟨o, d, bx, mk, c, cs, mv, h1, h2, h3, h4, h5, h6⟩ := h
  exact ⟨o, d, bx, mk, c, cs, mv, h1, h2, h3, (ht o d h1 h2).trans h4, by rw [hs]; exact h5, h6⟩

theorem InvL.step (h : InvL P n ops m0 w0 lt S M mB wB g β κ f L m a w) {i : Nat} (hl : i ∉ lt) {o : Oper} (ho : ops[i]? = some o) (hr : i ∈ Region.ready .any ops M)
    {β' κ' : Nat → Nat} {f' : Regs} {L' : Lst} {m' : World} {a' : Act} {w' : World} (hs' : Sim P n mB wB β' κ' f' L' m' a' w') (hk : Keep o.dst.toList β κ a β' κ' a') :
    InvL P n ops m0 w0 lt (S.setIfInBounds i true) (M.setIfInBounds i true) mB wB g β' κ' f' L' m' a' w' := by
  have hio : i < ops.size := (Array.getElem?_eq_some_iff.1 ho).1
  have hne : ∀ k ∈ lt, i ≠ k := fun k hk e => hl (e ▸ hk)
  refine ⟨hs', h.fin, h.closed.set hr, by rw [Array.size_setIfInBounds]; exact h.sizeS, by rw [Array.size_setIfInBounds]; exact h.sizeM, fun k hk' => ?_, fun k hk' => ?_, fun k hk' => ?_, fun k hk' hm => ?_, fun k k' h1 h2 h3 h4 => ?_⟩
  · by_cases e : i = k
    · subst e; simp [Array.getD_eq_getD_getElem?, h.sizeM, hio]
    · rw [getD_set_ne false e] at hk' ⊢; exact h.sub k hk'
  · by_cases e : i = k
    · subst e; left; simp [Array.getD_eq_getD_getElem?, h.sizeS, hio]
    · rw [getD_set_ne false e] at hk' ⊢; exact h.sup k hk'
  · obtain ⟨q1, q2, o', q3, q4, q5, q6, q7⟩ := h.late k hk'
    exact ⟨by rw [getD_set_ne true (hne k hk')]; exact q1, q2, o', q3, q4, q5, fun e he hb => getD_set_mono (q6 e he hb), q7⟩
  · rw [getD_set_ne false (hne k hk')] at hm
    refine made_put (h.made k hk' hm) (fun o' d h1 h2 => hk.tmps d fun hd => ?_) (by rw [hs'.size, h.sim.size])
    have := alone_spec (h.late k hk').2.1 h1 ho (hne k hk')
    simp at hd
    exact this (by rw [hd, h2])
  · rw [getD_set_ne false (hne k h1)] at h3
    rw [getD_set_ne false (hne k' h2)] at h4
    exact h.inj k k' h1 h2 h3 h4

end
end Go.Vc

namespace Go.Vc
open Go Go.RowKit
section
variable {P : Program} {n : Nat} {m0 w0 : World} {β κ : Nat → Nat} {f : Regs} {L : Lst} {m : World} {a : Act} {w : World}

/-- A slot's Bool is known: it may be written out. -/
theorem Sim.refine_slot (h : Sim P n m0 w0 β κ f L m a w) {g : Nat} {x : SV} (hx : ConcS β κ x (a.tmps.getD g undef)) : Sim P n m0 w0 β κ (upd f g x) L m a w :=
  ⟨h.size, h.defers, fun i => by simp only [upd]; split <;> first | (rename_i e; subst e; exact hx) | exact h.slots i, h.boxes, h.inj, h.under, h.sizes, h.frame⟩

theorem inN_iff : ∀ {ws : List Nat} {i : Nat}, inN ws i = true ↔ i ∈ ws
  | [], i => by simp [inN]
  | w :: ws, i => by
    simp only [inN, List.mem_cons]
    by_cases h : w = i
    · simp [h]
    · simp [h, fun e => h (Eq.symm e), inN_iff (ws := ws)]; exact fun e => absurd e.symm h
theorem conc_mix {ws : List Nat} {β κ β' κ' : Nat → Nat} (hb : ∀ j, j ∉ ws → β' j = β j) (hk : ∀ j, j ∉ ws → κ' j = κ j) {x : CV} {y : Value} (h : Conc β κ x y) : Conc β' κ' (mixC ws x) y := by
  cases x with
  | v x => exact h
  | bp j o =>
    simp only [mixC]
    split
    · trivial
    · rename_i hj; have hj' : j ∉ ws := fun e => hj (inN_iff.2 e)
      have h : y = _ := h; simp [Conc, h, hb j hj']
  | bs j k =>
    simp only [mixC]
    split
    · trivial
    · rename_i hj; have hj' : j ∉ ws := fun e => hj (inN_iff.2 e)
      have h : y = _ := h; simp [Conc, h, hb j hj', hk j hj']
  | dead => trivial
theorem concL_mix {ws : List Nat} {β κ β' κ' : Nat → Nat} (hb : ∀ j, j ∉ ws → β' j = β j) (hk : ∀ j, j ∉ ws → κ' j = κ j) : ∀ {xs : List CV} {ys : List Value}, ConcL β κ xs ys → ConcL β' κ' (xs.map (mixC ws)) ys
  | [], [], _ => trivial
  | _ :: _, _ :: _, h => ⟨conc_mix hb hk h.1, concL_mix hb hk h.2⟩
  | [], _ :: _, h => h.elim
  | _ :: _, [], h => h.elim
theorem concS_mix {ws : List Nat} {β κ β' κ' : Nat → Nat} (hb : ∀ j, j ∉ ws → β' j = β j) (hk : ∀ j, j ∉ ws → κ' j = κ j) {x : SV} {y : Value} (h : ConcS β κ x y) : ConcS β' κ' (mixS ws x) y := by
  cases x with
  | c x => exact conc_mix hb hk h
  | ag cs => obtain ⟨vs, rfl, h⟩ := h; exact ⟨vs, rfl, concL_mix hb hk h⟩

/-- At a loop's head: the slots that the body writes as they are now, the others as they were. -/
theorem Sim.mix {β0 κ0 : Nat → Nat} {f0 : Regs} {a0 : Act} (h : Sim P n m0 w0 β κ f L m a w) {ws : List Nat} (h0 : ∀ i, ConcS β0 κ0 (f0 i) (a0.tmps.getD i undef)) (hk : Keep ws β0 κ0 a0 β κ a) :
    Sim P n m0 w0 β κ (Go.Vc.mix f0 ws f) L m a w :=
  ⟨h.size, h.defers, fun i => by
    simp only [Go.Vc.mix]
    split
    · exact h.slots i
    · rename_i hi; rw [hk.tmps i (fun e => hi (inN_iff.2 e))]; exact concS_mix hk.beta hk.kappa (h0 i), h.boxes, h.inj, h.under, h.sizes, h.frame⟩

theorem conc_ren {i j : Nat} {x : CV} {y : Value} (h : Conc β κ x y) : Conc (fun k => if k = j then β i else β k) (fun k => if k = j then κ i else κ k) (renC i j x) y := by
  cases x with
  | v x => exact h
  | bp k o =>
    have h : y = _ := h
    subst h
    simp only [renC]
    by_cases h1 : k = i
    · simp [h1, Conc]
    · by_cases h2 : k = j
      · simp only [h2, if_true]; split <;> simp_all [Conc]
      · simp [h1, h2, Conc]
  | bs k q =>
    have h : y = _ := h
    subst h
    simp only [renC]
    by_cases h1 : k = i
    · simp [h1, Conc]
    · by_cases h2 : k = j
      · simp only [h2, if_true]; split <;> simp_all [Conc]
      · simp [h1, h2, Conc]
  | dead => trivial
theorem concL_ren {i j : Nat} : ∀ {xs : List CV} {ys : List Value}, ConcL β κ xs ys → ConcL (fun k => if k = j then β i else β k) (fun k => if k = j then κ i else κ k) (xs.map (renC i j)) ys
  | [], [], _ => trivial
  | _ :: _, _ :: _, h => ⟨conc_ren h.1, concL_ren h.2⟩
  | [], _ :: _, h => h.elim
  | _ :: _, [], h => h.elim
theorem concS_ren {i j : Nat} {x : SV} {y : Value} (h : ConcS β κ x y) : ConcS (fun k => if k = j then β i else β k) (fun k => if k = j then κ i else κ k) (renS i j x) y := by
  cases x with
  | c x => exact conc_ren h
  | ag cs => obtain ⟨vs, rfl, h⟩ := h; exact ⟨vs, rfl, concL_ren h⟩
theorem look_renL {i j : Nat} (hij : i ≠ j) (L : Lst) (k : Nat) : look (renL i j L) k = if k = i then none else if k = j then (look L i).map (renB i j) else (look L k).map (renB i j) := by
  induction L with
  | nil => simp [renL, look]
  | cons p r ih =>
    obtain ⟨q, b⟩ := p
    simp only [renL]
    by_cases hqi : q = i
    · subst hqi
      simp only [if_true, look, ih]
      by_cases h1 : j = k
      · subst h1; simp [Ne.symm hij]
      · have h1' : ¬ k = j := fun e => h1 e.symm
        by_cases h2 : k = q
        · subst h2; simp [h1]
        · have h2' : ¬ q = k := fun e => h2 e.symm
          simp [h1, h1', h2, h2']
    · simp only [if_neg hqi]
      by_cases hqj : q = j
      · subst hqj
        simp only [if_true, ih, look]
        by_cases h1 : k = i
        · simp [h1]
        · by_cases h2 : k = q
          · subst h2; simp [hqi]
          · have h2' : ¬ q = k := fun e => h2 e.symm
            simp [h1, h2, h2']
      · simp only [if_neg hqj, look, ih]
        by_cases h1 : q = k
        · subst h1; simp [hqi, hqj]
        · simp only [if_neg h1]
          by_cases h2 : k = i
          · simp [h2]
          · by_cases h3 : k = j
            · simp [h3, hqi]
            · simp [h2, h3]
theorem renB_ty (i j : Nat) (b : Box) : (renB i j b).ty = b.ty := by cases b <;> rfl

theorem Sim.ren (h : Sim P n m0 w0 β κ f L m a w) {i j : Nat} (hij : i ≠ j) :
    Sim P n m0 w0 (fun k => if k = j then β i else β k) (fun k => if k = j then κ i else κ k) (renR i j f) (renL i j L) m a w := by
  have old : ∀ k bx, look (renL i j L) k = some bx → ∃ b0, bx = renB i j b0 ∧ look L (if k = j then i else k) = some b0 ∧ k ≠ i := by
    intro k bx hl
    rw [look_renL hij] at hl
    by_cases h1 : k = i
    · simp [h1] at hl
    · simp only [if_neg h1] at hl
      by_cases h2 : k = j
      · simp only [h2, if_true] at hl ⊢
        cases hb : look L i with
        | none => simp [hb] at hl
        | some b0 => simp only [hb, Option.map_some, Option.some.injEq] at hl; exact ⟨b0, hl.symm, rfl, fun e => hij (e.symm)⟩
      · simp only [if_neg h2] at hl ⊢
        cases hb : look L k with
        | none => simp [hb] at hl
        | some b0 => simp only [hb, Option.map_some, Option.some.injEq] at hl; exact ⟨b0, hl.symm, rfl, h1⟩
  have beta : ∀ k, (if k = j then β i else β k) = β (if k = j then i else k) := fun k => by split <;> rfl
  refine ⟨h.size, h.defers, fun q => concS_ren (h.slots q), fun k bx hl => ?_, fun k q bk bq hk hq e => ?_, h.under, h.sizes, h.frame⟩
  · obtain ⟨b0, rfl, hb0, _⟩ := old k bx hl
    obtain ⟨⟨cs, q1, q2⟩, q3, q4⟩ := h.boxes _ b0 hb0
    refine ⟨⟨cs, by rw [renB_ty, beta]; exact q1, ?_⟩, by rw [beta]; exact q3, by rw [beta]; exact q4⟩
    cases b0 with
    | str t us => exact concL_ren q2
    | arr t us c =>
      obtain ⟨junk, p1, p2, p3, p4⟩ := q2
      refine ⟨junk, p1, ?_, p3, p4⟩
      rw [← p2]
      show (if k = j then κ i else κ k) = κ (if k = j then i else k)
      split <;> rfl
  · obtain ⟨b0, _, hb0, hki⟩ := old k bk hk
    obtain ⟨b1, _, hb1, hqi⟩ := old q bq hq
    rw [beta, beta] at e
    have := h.inj _ _ b0 b1 hb0 hb1 e
    by_cases h1 : k = j <;> by_cases h2 : q = j <;> simp_all

/-- A loop, its rounds counted down by a number that stands in no slot. -/
theorem wp_loop_nat {c : Code} {Q : Exit → Act → World → Prop} (J : Nat → Act → World → Prop) (round : ∀ k a w, J k a w → c.wp P (Exit.then (fun a' w' => ∃ k', k' < k ∧ J k' a' w') Q) a w) {k₀ : Nat} (h₀ : J k₀ a w) : (Code.loop c).wp P Q a w := by
  intro b k cs
  have key : ∀ q a w, J q a w → ∃ e a' w', Q e a' w' ∧ Arrives P (lone (b.at a (.code c :: .inLoop c :: k)) cs w) b k cs e a' w' := by
    intro q
    induction q using Nat.strongRecOn with
    | _ q ih =>
      intro a w hI
      obtain ⟨e, a₁, w₁, hq, harr⟩ := round q a w hI b (.inLoop c :: k) cs
      cases e with
      | normal =>
        obtain ⟨q', hlt, hI₁⟩ := hq
        obtain ⟨e₂, a₂, w₂, hq₂, harr₂⟩ := ih q' hlt a₁ w₁ hI₁
        exact ⟨e₂, a₂, w₂, hq₂, .of_steps (Steps.trans harr (.one step_inLoop)) harr₂⟩
      | exit id => exact ⟨_, a₁, w₁, hq, .pass (x := .inLoop c) rfl (fun _ _ => .inl (by simp)) harr⟩
      | goto l => exact ⟨_, a₁, w₁, hq, .pass (x := .inLoop c) rfl (fun _ _ => .inl (by simp)) harr⟩
      | ret => exact ⟨_, a₁, w₁, hq, .pass (x := .inLoop c) rfl (fun _ _ => .inl (by simp)) harr⟩
      | panic ch => exact ⟨_, a₁, w₁, hq, .pass (x := .inLoop c) rfl (fun _ _ => .inl (by simp)) harr⟩
      | outgrown => exact ⟨_, a₁, w₁, hq, .pass (x := .inLoop c) rfl (fun _ _ => .inl (by simp)) harr⟩
  obtain ⟨e, a', w', hq, harr⟩ := key _ a w h₀
  exact ⟨e, a', w', hq, .of_steps (.one step_loop) harr⟩

end
end Go.Vc

namespace Go.Vc
open Go Go.RowKit
section
variable {P : Program} {n : Nat} {m0 w0 : World} {β κ : Nat → Nat} {f : Regs} {L : Lst} {m : World} {a : Act} {w : World}

/-- A result as the machine takes it. -/
def resV (tmps : Array Value) : ResultVar → Sem Value
  | .tmp t => pure (tmps.getD t undef)
  | .cell p ty => do loadVar ty (← asAddr (tmps.getD p undef))

theorem resS_sound (hs : Sim P n m0 w0 β κ f L m a w) {r : ResultVar} {s : SV} (h : resS P L f r = some s) :
    ∃ v, (resV a.tmps r).run P w = .ok v w ∧ ConcS β κ s v := by
  cases r with
  | tmp t => simp only [resS, Option.some.injEq] at h; subst h; exact ⟨_, rfl, hs.slots t⟩
  | cell p ty =>
    simp only [resS] at h
    have hp := hs.slots p
    split at h
    case h_2 => cases h
    rename_i i hev
    rw [hev] at hp
    have hp : a.tmps.getD p undef = .pointer (some ⟨β i, 0, none⟩) := hp
    split at h
    case h_2 => cases h
    rename_i ty' cs hl
    obtain ⟨⟨arr, hc, hh⟩, _, _⟩ := hs.boxes i _ hl
    have hh : ConcL β κ cs arr.toList := hh
    have hcell : ∀ j, w.cell? ⟨β i, j, none⟩ = arr.toList[j]? := fun j => by rw [cell_of_row w (β i) j arr _ _ hc]; simp
    split at h
    · rename_i k ht
      split at h
      · rename_i hk
        simp only [Option.some.injEq] at h
        subst h
        have hlen : cs.length = arr.size := by simpa using concL_length hh
        have hr : (loadVar ty ⟨β i, 0, none⟩).run P w = .ok (.agg arr.toList.toArray) w :=
          run_loadVar_agg ht (vs := arr.toList) (by simp; omega) (fun j v hj => by rw [add_lit0, Nat.zero_add, hcell]; exact hj)
        exact ⟨_, by simp [resV, hp, asAddr, hr], mkAg_conc hh⟩
      · cases h
    · rename_i ht
      split at h
      · rename_i c
        simp only [Option.some.injEq] at h
        subst h
        obtain ⟨v, hv, hcv⟩ := concL_get hh (i := 0) rfl
        have hr : (loadVar ty ⟨β i, 0, none⟩).run P w = .ok v w := run_loadVar_one ht (by rw [hcell]; exact hv)
        exact ⟨v, by simp [resV, hp, asAddr, hr], hcv⟩
      · cases h
    · cases h

theorem resAll_sound (hs : Sim P n m0 w0 β κ f L m a w) : ∀ {rs : List ResultVar} {ss : List SV}, resAll P L f rs = some ss →
    ∃ vs, (rs.mapM (resV a.tmps)).run P w = .ok vs w ∧ ConcSL β κ ss vs
  | [], ss, h => by simp only [resAll, Option.some.injEq] at h; subst h; exact ⟨[], rfl, trivial⟩
  | r :: rs, ss, h => by
    simp only [resAll] at h
    cases hr : resS P L f r with
    | none => simp [hr] at h
    | some s => cases hrs : resAll P L f rs with
      | none => simp [hr, hrs] at h
      | some us =>
        simp only [hr, hrs, Option.some.injEq] at h
        subst h
        obtain ⟨v, h1, h2⟩ := resS_sound hs hr
        obtain ⟨vs, h3, h4⟩ := resAll_sound hs hrs
        exact ⟨v :: vs, by simp only [List.mapM_cons, Sem.run_bind, h1, Result.andThen_ok, h3, Sem.run_pure], h2, h4⟩

theorem results_run {fn : Func} {vs : List Value} (h : (fn.results.toList.mapM (resV a.tmps)).run P w = .ok vs w) :
    (results fn a.tmps).run P w = .ok (wrapRes vs) w := by
  have hm : (fn.results.mapM (resV a.tmps)).run P w = .ok vs.toArray w := by
    rw [← Array.toArray_toList (xs := fn.results), List.mapM_toArray]
    simp only [Sem.run_map, h, Result.andThen_ok]
  have he : (results fn a.tmps).run P w = ((fn.results.mapM (resV a.tmps)).run P w).andThen
      fun vs w => .ok (if h : vs.size = 1 then vs[0] else .tuple vs) w := by
    unfold results
    rw [Sem.run_bind]
    rfl
  rw [he, hm]
  simp only [Result.andThen_ok]
  congr 1
  cases vs with
  | nil => rfl
  | cons v r => cases r with
    | nil => rfl
    | cons u r => simp [wrapRes]

/-- A call told of the very world. -/
theorem Under.refl (w : World) : Under w w := ⟨fun _ _ => rfl, rfl, rfl, rfl⟩
end
end Go.Vc

namespace Go.Vc
open Go Go.RowKit
section
variable {P : Program} {n : Nat} {d : Option Nat} {K : K0} {f : Regs} {L : Lst} {m : World}

/-- The test of a comparison is asked of no two interface values here. -/
def plainV : Value → Bool
  | .int _ _ | .bool _ | .string _ => true
  | _ => false
theorem run_eqGuard {op : BinOp} {t : TypeId} {x y : Operand} {a b : Value} {s : Sem Value} (h : plainV a = true) (w : World) : (do eqGuard op t x y a b; s : Sem Value).run P w = s.run P w := by
  have : (eqGuard op t x y a b).run P w = .ok () w := by
    unfold eqGuard
    cases op <;> simp <;> cases a <;> simp_all [plainV]
  rw [Sem.run_bind, this]; rfl

theorem bytes_eq (a b : ByteArray) : (a.toList == b.toList) = decide (a = b) := by
  by_cases h : a = b
  · simp [h]
  · have : ¬ a.toList = b.toList := fun e => h (by
      rw [ByteArray.toList_eq, ByteArray.toList_eq] at e
      exact ByteArray.ext (Array.ext' e))
    simp [h, this]
end
/-- The number in a slot. -/
def ixS : SV → Int
  | .c (.v (.int _ k)) => k
  | _ => 0
theorem Sub.refl (L : Lst) (h : ∀ p ∈ L, look L p.1 = some p.2) : Sub L L := h
theorem vcLoop.intro {ws : List Nat} {body : KE → K0} {K : KE} {f : Regs} {L : Lst} {m : World} (I : Regs → Lst → World → Prop) (μ : Regs → Lst → World → Nat)
    (h0 : ∃ L0, Sub L0 L ∧ I (mix f ws f) L0 m)
    (h : ∀ g L1 m1, I (mix f ws g) L1 m1 → body (fun e f' L' m' => match e with
      | .normal => ∃ L2, Sub L2 L' ∧ I (mix f ws f') L2 m' ∧ μ (mix f ws f') L2 m' < μ (mix f ws g) L1 m1
      | e => K e f' L' m') (mix f ws g) L1 m1) : vcLoop ws body K f L m := ⟨[], I, μ, h0, h⟩
theorem Sub.nil (L : Lst) : Sub [] L := fun _ h => by cases h
theorem Sub.cons {i : Nat} {b : Box} {A L : Lst} (h : look L i = some b) (k : Sub A L) : Sub ((i, b) :: A) L := fun p hp => by
  rcases List.mem_cons.1 hp with rfl | hp
  · exact h
  · exact k p hp

theorem vcDrawn.intro {P : Program} {n : Nat} {ops : Array Oper} {K : K0} {f : Regs} {L : Lst} {m : World} (p : Plan) (hp : (Region.noSelect ops && planOk ops ops.size (Array.replicate ops.size false) true p) = true)
    (h : vcPlan P n ops K p f L m) : vcDrawn P n ops K f L m := by
  rw [Bool.and_eq_true] at hp
  exact ⟨hp.1, .inl ⟨p, hp.2, h⟩⟩
end Go.Vc

namespace Go.Vc
open Go Go.RowKit
/-- Which scalar a field is. -/
inductive FK where | int | str | bool
/-- The fields that are compared, each with its place and kind. -/
def fkOf (P : Program) (f : Field) : Option (Nat × FK) :=
  match P.underlying f.type with
  | some (.int _) => if f.name ≠ "_" ∧ P.plainKey f.type = true then some (f.offset, .int) else none
  | some .string => if f.name ≠ "_" ∧ P.plainKey f.type = true then some (f.offset, .str) else none
  | some .bool => if f.name ≠ "_" ∧ P.plainKey f.type = true then some (f.offset, .bool) else none
  | _ => none
def fksOf (P : Program) (t : TypeId) : Option (List (Nat × FK)) := (P.fieldsOf t).toList.mapM (fkOf P)
def eqFK (xs ys : List Value) : List (Nat × FK) → Option Bool
  | [] => some true
  | (o, k) :: r => match k, xs[o]?, ys[o]? with
    | .int, some (.int .i64 a), some (.int .i64 b) => if a = b then eqFK xs ys r else some false
    | .str, some (.string a), some (.string b) => if a = b then eqFK xs ys r else some false
    | .bool, some (.bool a), some (.bool b) => if a = b then eqFK xs ys r else some false
    | _, _, _ => none
theorem eqFields_run {P : Program} {w : World} (d : Nat) (xs ys : List Value) : ∀ (fs : List Field) {ks : List (Nat × FK)} {b : Bool}, fs.mapM (fkOf P) = some ks → eqFK xs ys ks = some b →
    (Op.eqFields (d + 1) xs.toArray ys.toArray fs).run P w = .ok b w
  | [], ks, b, h, hb => by
    simp at h; subst h
    simp only [eqFK, Option.some.injEq] at hb; subst hb; rfl
  | f :: fs, ks, b, h, hb => by
    simp only [List.mapM_cons, Option.bind_eq_bind, Option.bind_eq_some_iff, Option.pure_def, Option.some.injEq] at h
    obtain ⟨p, hp, r, hr, rfl⟩ := h
    have ih := fun b hb => eqFields_run (P := P) (w := w) d xs ys fs (b := b) hr hb
    unfold fkOf at hp
    have go : ∀ {a c : Value} {q : Bool} {o : Nat}, f.offset = o → f.name ≠ "_" → P.plainKey f.type = true → xs[o]? = some a → ys[o]? = some c → (Op.equalIn (d + 1) f.type a c).run P w = .ok q w →
        (if q = true then eqFK xs ys r else some false) = some b → (Op.eqFields (d + 1) xs.toArray ys.toArray (f :: fs)).run P w = .ok b w := by
      intro a c q o ho hn hpk ha hc hq hb
      subst ho
      simp only [Op.eqFields, if_pos hn, Sem.run_bind, run_part_plain w hpk (xs := xs.toArray) (off := f.offset) (v := a) (by simpa using ha), run_part_plain w hpk (xs := ys.toArray) (off := f.offset) (v := c) (by simpa using hc), Result.andThen_ok, hq]
      cases q with
      | true => simp only [Bool.not_true, Bool.false_eq_true, if_false]; exact ih b (by simpa using hb)
      | false => simp only [Bool.not_false, if_true, Sem.run_pure]; simp at hb; rw [hb]
    split at hp
    · rename_i k hu
      split at hp
      · rename_i hnp
        simp only [Option.some.injEq] at hp; subst hp
        simp only [eqFK] at hb
        split at hb
        · rename_i a c e1 ha hc
          exact go rfl hnp.1 hnp.2 ha hc (run_equalIn_int w d f.type _ k a c hu) (by simpa using hb)
        · rename_i e1 _ _; cases e1
        · rename_i e1 _ _; cases e1
        · cases hb
      · cases hp
    · rename_i hu
      split at hp
      · rename_i hnp
        simp only [Option.some.injEq] at hp; subst hp
        simp only [eqFK] at hb
        split at hb
        · rename_i e1 _ _; cases e1
        · rename_i a c e1 ha hc
          exact go rfl hnp.1 hnp.2 ha hc (run_equalIn_string w d f.type a c hu) (by simpa [bytes_eq] using hb)
        · rename_i e1 _ _; cases e1
        · cases hb
      · cases hp
    · rename_i hu
      split at hp
      · rename_i hnp
        simp only [Option.some.injEq] at hp; subst hp
        simp only [eqFK] at hb
        split at hb
        · rename_i e1 _ _; cases e1
        · rename_i e1 _ _; cases e1
        · rename_i a c e1 ha hc
          exact go rfl hnp.1 hnp.2 ha hc (run_equalIn_bool' w d f.type a c hu) (by simpa using hb)
        · cases hb
      · cases hp
    · cases hp

/-- Two structs of scalars are compared. -/
theorem equalIn_fk {P : Program} {t : TypeId} {ks : List (Nat × FK)} (h : fksOf P t = some ks) (ht : P.underlying t = some (.struct (P.fieldsOf t))) (hp : P.stoodInHeld t = false) {xs ys : List Value} {b : Bool} (hb : eqFK xs ys ks = some b) (w : World) :
    (Op.equalIn 10000 t (.agg xs.toArray) (.agg ys.toArray)).run P w = .ok b w := by
  rw [run_equalIn_struct w 9999 t _ _ ht hp]; exact eqFields_run 9998 xs ys _ h hb
end Go.Vc

namespace Go.Vc
open Go Go.RowKit

/-- A datum, cell by cell: a scalar cell holds its value; a slice of n elements its cells, flat. -/
inductive D where
  | lit (v : Value)
  | sl (n : Nat) (ds : List D)

/-- A string that a machine can hold. -/
def okV : Value → Prop
  | .string s => s.size ≤ maxLen
  | .agg _ | .tuple _ => False
  | _ => True
mutual
/-- v reads as the datum in the world m; F: the blocks that the reading meets, in order. -/
def CellF (m : World) : D → Value → List Nat → Prop
  | .lit u, v, F => v = u ∧ F = [] ∧ okV u
  | .sl n ds, v, F => ∃ a cap, v = .slice a n cap ∧ n ≤ cap ∧ cap ≤ maxLen ∧ (a = none → cap = 0) ∧
      ((ds = [] ∧ F = []) ∨ (ds ≠ [] ∧ ∃ b o F', a = some ⟨b, o, none⟩ ∧ RowF m b o ds F' ∧ F = b :: F'))
def RowF (m : World) (b : Nat) : Nat → List D → List Nat → Prop
  | _, [], F => F = []
  | o, d :: ds, F => ∃ v F1 F2, m.cell? ⟨b, o, none⟩ = some v ∧ CellF m d v F1 ∧ RowF m b (o + 1) ds F2 ∧ F = F1 ++ F2
end
/-- A struct's cells, as values. -/
def ValsF (m : World) : List D → List Value → List Nat → Prop
  | [], [], F => F = []
  | d :: ds, v :: vs, F => ∃ F1 F2, CellF m d v F1 ∧ ValsF m ds vs F2 ∧ F = F1 ++ F2
  | _, _, _ => False

mutual
theorem CellF.mono {m m' : World} (h : ∀ b, vis m b → m'.heap[b]? = m.heap[b]?) : ∀ (d : D) {v : Value} {F : List Nat}, CellF m d v F → CellF m' d v F
  | .lit u, v, F, hc => hc
  | .sl n ds, v, F, hc => by
    obtain ⟨a, cap, h1, h2, h3, h4, hc⟩ := hc
    refine ⟨a, cap, h1, h2, h3, h4, hc.imp id ?_⟩
    rintro ⟨hne, b, o, F', h5, h6, h7⟩
    exact ⟨hne, b, o, F', h5, RowF.mono h b ds h6, h7⟩
theorem RowF.mono {m m' : World} (h : ∀ b, vis m b → m'.heap[b]? = m.heap[b]?) (b : Nat) : ∀ (ds : List D) {o : Nat} {F : List Nat}, RowF m b o ds F → RowF m' b o ds F
  | [], o, F, hc => hc
  | d :: ds, o, F, hc => by
    obtain ⟨v, F1, F2, h1, h2, h3, h4⟩ := hc
    have hv := h b (vis_of_cell h1)
    refine ⟨v, F1, F2, ?_, CellF.mono h d h2, RowF.mono h b ds h3, h4⟩
    rw [World.cell?_of_block (w := m) (w' := m') (a := ⟨b, o, none⟩) hv]; exact h1
end
theorem ValsF.mono {m m' : World} (h : ∀ b, vis m b → m'.heap[b]? = m.heap[b]?) : ∀ {ds : List D} {vs : List Value} {F : List Nat}, ValsF m ds vs F → ValsF m' ds vs F
  | [], [], _, hc => hc
  | d :: ds, v :: vs, F, hc => by
    obtain ⟨F1, F2, h1, h2, h3⟩ := hc
    exact ⟨F1, F2, CellF.mono h d h1, h2.mono h, h3⟩
  | [], _ :: _, _, hc => hc.elim
  | _ :: _, [], _, hc => hc.elim
theorem CellF.grow {m m' : World} (g : Grow m m') {d : D} {v : Value} {F : List Nat} (h : CellF m d v F) : CellF m' d v F := CellF.mono g.blocks d h
theorem ValsF.grow {m m' : World} (g : Grow m m') {ds : List D} {vs : List Value} {F : List Nat} (h : ValsF m ds vs F) : ValsF m' ds vs F := h.mono g.blocks
theorem RowF.grow {m m' : World} (g : Grow m m') {b o : Nat} {ds : List D} {F : List Nat} (h : RowF m b o ds F) : RowF m' b o ds F := RowF.mono g.blocks b ds h

mutual
theorem CellF.vis {m : World} : ∀ (d : D) {v : Value} {F : List Nat}, CellF m d v F → ∀ b ∈ F, Go.Vc.vis m b
  | .lit u, v, F, hc, b, hb => by rw [hc.2.1] at hb; cases hb
  | .sl n ds, v, F, hc, b, hb => by
    obtain ⟨a, cap, _, _, _, _, ⟨_, hF⟩ | ⟨hne, b', o, F', _, h6, h7⟩⟩ := hc
    · rw [hF] at hb; cases hb
    · rw [h7] at hb
      rcases List.mem_cons.1 hb with rfl | hb
      · cases ds with
        | nil => exact absurd rfl hne
        | cons d ds => obtain ⟨v, F1, F2, h1, _⟩ := h6; exact vis_of_cell h1
      · exact RowF.vis b' ds h6 b hb
theorem RowF.vis {m : World} (b' : Nat) : ∀ (ds : List D) {o : Nat} {F : List Nat}, RowF m b' o ds F → ∀ b ∈ F, Go.Vc.vis m b
  | [], o, F, hc, b, hb => by have hc : F = [] := hc; rw [hc] at hb; cases hb
  | d :: ds, o, F, hc, b, hb => by
    obtain ⟨v, F1, F2, h1, h2, h3, h4⟩ := hc
    rw [h4] at hb
    rcases List.mem_append.1 hb with hb | hb
    · exact CellF.vis d h2 b hb
    · exact RowF.vis b' ds h3 b hb
end
theorem ValsF.vis {m : World} : ∀ {ds : List D} {vs : List Value} {F : List Nat}, ValsF m ds vs F → ∀ b ∈ F, Go.Vc.vis m b
  | [], [], F, hc, b, hb => by have hc : F = [] := hc; rw [hc] at hb; cases hb
  | d :: ds, v :: vs, F, hc, b, hb => by
    obtain ⟨F1, F2, h1, h2, h3⟩ := hc
    rw [h3] at hb
    rcases List.mem_append.1 hb with hb | hb
    · exact CellF.vis d h1 b hb
    · exact h2.vis b hb
  | [], _ :: _, _, hc, _, _ => hc.elim
  | _ :: _, [], _, hc, _, _ => hc.elim

theorem ValsF.length {m : World} : ∀ {ds : List D} {vs : List Value} {F : List Nat}, ValsF m ds vs F → vs.length = ds.length
  | [], [], _, _ => rfl
  | _ :: _, _ :: _, _, h => by obtain ⟨_, _, _, h, _⟩ := h; simp [h.length]
  | [], _ :: _, _, h => h.elim
  | _ :: _, [], _, h => h.elim

/-- A row in memory is its values, at their places. -/
theorem RowF.vals {m : World} {b : Nat} : ∀ {ds : List D} {o : Nat} {F : List Nat}, RowF m b o ds F → ∃ vs, (∀ j v, vs[j]? = some v → m.cell? ⟨b, o + j, none⟩ = some v) ∧ ValsF m ds vs F
  | [], o, F, h => ⟨[], by simp, h⟩
  | d :: ds, o, F, h => by
    obtain ⟨v, F1, F2, h1, h2, h3, h4⟩ := h
    obtain ⟨vs, h5, h6⟩ := h3.vals
    refine ⟨v :: vs, fun j u hj => ?_, F1, F2, h2, h6, h4⟩
    cases j with
    | zero => simp at hj; subst hj; exact h1
    | succ j => have := h5 j u (by simpa using hj); rwa [show o + 1 + j = o + (j + 1) by omega] at this
theorem ValsF.row {m : World} {b : Nat} : ∀ {ds : List D} {vs : List Value} {o : Nat} {F : List Nat}, ValsF m ds vs F → (∀ j v, vs[j]? = some v → m.cell? ⟨b, o + j, none⟩ = some v) → RowF m b o ds F
  | [], [], o, F, h, _ => h
  | d :: ds, v :: vs, o, F, h, hc => by
    obtain ⟨F1, F2, h1, h2, h3⟩ := h
    exact ⟨v, F1, F2, by simpa using hc 0 v rfl, h1, h2.row (fun j u hj => by have := hc (j + 1) u (by simpa using hj); rwa [show o + 1 + j = o + (j + 1) by omega]), h3⟩
  | [], _ :: _, _, _, h, _ => h.elim
  | _ :: _, [], _, _, h, _ => h.elim
theorem ValsF.split {m : World} : ∀ {as bs : List D} {vs : List Value} {F : List Nat}, ValsF m (as ++ bs) vs F → ∃ va vb Fa Fb, vs = va ++ vb ∧ F = Fa ++ Fb ∧ ValsF m as va Fa ∧ ValsF m bs vb Fb
  | [], bs, vs, F, h => ⟨[], vs, [], F, rfl, rfl, rfl, h⟩
  | a :: as, bs, v :: vs, F, h => by
    obtain ⟨F1, F2, h1, h2, h3⟩ := h
    obtain ⟨va, vb, Fa, Fb, rfl, rfl, h4, h5⟩ := h2.split
    exact ⟨v :: va, vb, F1 ++ Fa, Fb, rfl, by rw [h3, List.append_assoc], ⟨F1, Fa, h1, h4, rfl⟩, h5⟩
  | _ :: _, _, [], _, h => h.elim
theorem ValsF.join {m : World} : ∀ {as bs : List D} {va vb : List Value} {Fa Fb : List Nat}, ValsF m as va Fa → ValsF m bs vb Fb → ValsF m (as ++ bs) (va ++ vb) (Fa ++ Fb)
  | [], bs, [], vb, Fa, Fb, h, k => by have h : Fa = [] := h; subst h; exact k
  | a :: as, bs, v :: va, vb, Fa, Fb, h, k => by
    obtain ⟨F1, F2, h1, h2, h3⟩ := h
    exact ⟨F1, F2 ++ Fb, h1, h2.join k, by rw [h3, List.append_assoc]⟩
  | [], _, _ :: _, _, _, _, h, _ => h.elim
  | _ :: _, _, [], _, _, _, h, _ => h.elim

/-- The k-th element of a slice of structs. -/
theorem ValsF.elem {m : World} {α : Type} {row : α → List D} {sz : Nat} (hsz : ∀ e, (row e).length = sz) : ∀ {es : List α} {vs : List Value} {F : List Nat}, ValsF m (es.flatMap row) vs F → ∀ {k : Nat} {e : α}, es[k]? = some e →
    ∃ ws Fk F1 F2, ws.length = sz ∧ (∀ j v, ws[j]? = some v → vs[k * sz + j]? = some v) ∧ ValsF m (row e) ws Fk ∧ F = F1 ++ (Fk ++ F2)
  | [], vs, F, h, k, e, he => by simp at he
  | x :: es, vs, F, h, k, e, he => by
    simp only [List.flatMap_cons] at h
    obtain ⟨va, vb, Fa, Fb, rfl, rfl, h4, h5⟩ := h.split
    have hl : va.length = sz := by rw [h4.length, hsz]
    cases k with
    | zero =>
      simp at he; subst he
      exact ⟨va, Fa, [], Fb, hl, fun j v hj => by rw [Nat.zero_mul, Nat.zero_add, List.getElem?_append_left (List.getElem?_eq_some_iff.1 hj).1]; exact hj, h4, rfl⟩
    | succ k =>
      obtain ⟨ws, Fk, F1, F2, q1, q2, q3, q4⟩ := ValsF.elem hsz h5 (k := k) (by simpa using he)
      refine ⟨ws, Fk, Fa ++ F1, F2, q1, fun j v hj => ?_, q3, by rw [q4]; simp⟩
      rw [List.getElem?_append_right (by rw [hl, Nat.add_mul]; omega), hl, Nat.add_mul, show k * sz + 1 * sz + j - sz = k * sz + j by omega]
      exact q2 j v hj

/-- A slice, its header and its elements. -/
theorem CellF.slice {m : World} {n : Nat} {ds : List D} {v : Value} {F : List Nat} (h : CellF m (.sl n ds) v F) : ∃ a cap, v = .slice a n cap ∧ n ≤ cap ∧ cap ≤ maxLen ∧ (a = none → cap = 0) := by
  obtain ⟨a, cap, h1, h2, h3, h4, _⟩ := h; exact ⟨a, cap, h1, h2, h3, h4⟩
theorem CellF.elem {m : World} {α : Type} {row : α → List D} {sz : Nat} (hsz : ∀ e, (row e).length = sz) (h0 : 0 < sz) {es : List α} {n cap : Nat} {a : Option Addr} {F : List Nat}
    (h : CellF m (.sl n (es.flatMap row)) (.slice a n cap) F) {k : Nat} {e : α} (he : es[k]? = some e) :
    ∃ ad vs Fk, a = some ad ∧ vs.length = sz ∧ (∀ j v, vs[j]? = some v → m.cell? ((ad.add (k * sz)).add j) = some v) ∧ ValsF m (row e) vs Fk ∧ (∀ b ∈ Fk, b ∈ F) := by
  obtain ⟨a', cap', h1, h2, h3, h4, hc⟩ := h
  injection h1 with h1 _ h1c
  subst h1 h1c
  rcases hc with ⟨hnil, _⟩ | ⟨_, b, o, F', rfl, hr, rfl⟩
  · exfalso
    have hm := List.mem_of_getElem? he
    have : row e = [] := List.flatMap_eq_nil_iff.1 hnil e hm
    have := hsz e
    simp_all
  · obtain ⟨vs, hvs, hv⟩ := hr.vals
    obtain ⟨ws, Fk, F1, F2, q1, q2, q3, q4⟩ := hv.elem hsz he
    refine ⟨_, ws, Fk, rfl, q1, fun j v hj => ?_, q3, fun b' hb' => by rw [q4]; simp [hb']⟩
    have := hvs _ _ (q2 j v hj)
    rw [add_lit0, add_lit0, Nat.add_assoc]; exact this
/-- The one cell of an element. -/
theorem ValsF.one {m : World} {d : D} {vs : List Value} {F : List Nat} {u : Value} (h : ValsF m [d] vs F) (hu : vs[0]? = some u) : CellF m d u F := by
  cases vs with
  | nil => simp at hu
  | cons x r =>
    simp at hu; subst hu
    obtain ⟨F1, F2, h1, h2, h3⟩ := h
    cases r with
    | nil => have h2 : F2 = [] := h2; subst h2; rw [h3]; simpa using h1
    | cons _ _ => exact h2.elim
theorem CellF.oneCell {m : World} {d : D} {v : Value} {F : List Nat} (h : CellF m d v F) : Go.Vc.oneCell v = true := by
  cases d with
  | lit u => obtain ⟨rfl, _, ho⟩ := h; cases v <;> first | rfl | exact ho.elim
  | sl n ds => obtain ⟨a, cap, rfl, _⟩ := h; rfl
theorem ValsF.oneCell {m : World} : ∀ {ds : List D} {vs : List Value} {F : List Nat}, ValsF m ds vs F → ∀ v ∈ vs, Go.Vc.oneCell v = true
  | [], [], _, _, v, hv => by cases hv
  | d :: ds, u :: vs, F, h, v, hv => by
    obtain ⟨F1, F2, h1, h2, h3⟩ := h
    rcases List.mem_cons.1 hv with rfl | hv
    · exact h1.oneCell
    · exact h2.oneCell v hv
  | [], _ :: _, _, h, _, _ => h.elim
  | _ :: _, [], _, h, _, _ => h.elim
theorem ValsF.single {m : World} {d : D} {v : Value} {F : List Nat} (h : CellF m d v F) : ValsF m [d] [v] F := ⟨F, [], h, rfl, by simp⟩
theorem Sub.one (i : Nat) (b : Box) : Sub [(i, b)] [(i, b)] := Sub.cons (by simp [look]) (Sub.nil _)
/-- Blocks that whoever sees m does not see, each once. -/
def Fresh (m : World) (F : List Nat) : Prop := F.Nodup ∧ ∀ b ∈ F, ¬ Go.Vc.vis m b
theorem Fresh.nil (m : World) : Fresh m [] := ⟨by simp, fun _ h => by cases h⟩
theorem Fresh.join {m m1 : World} (g : Grow m m1) {F F' : List Nat} (h : Fresh m F) (hv : ∀ b ∈ F, Go.Vc.vis m1 b) (k : Fresh m1 F') : Fresh m (F ++ F') :=
  ⟨List.nodup_append.2 ⟨h.1, k.1, fun x hx y hy e => k.2 y hy (e ▸ hv x hx)⟩, fun b hb => by
    rcases List.mem_append.1 hb with hb | hb
    · exact h.2 b hb
    · exact fun hm => k.2 b hb (g.vis hm)⟩
theorem Fresh.cons {m m1 : World} {b : Nat} {F : List Nat} (hb : ¬ Go.Vc.vis m1 b) (g : Grow m m1) (hv : ∀ x ∈ F, Go.Vc.vis m1 x) (h : Fresh m F) : Fresh m (b :: F) :=
  ⟨List.nodup_cons.2 ⟨fun hm => hb (hv b hm), h.1⟩, fun x hx => by
    rcases List.mem_cons.1 hx with rfl | hx
    · exact fun hm => hb (g.vis hm)
    · exact h.2 x hx⟩
theorem Pub.cell {m m' : World} {b : Nat} {ty : TypeId} {vs : List Value} (h : Pub m m' b ty vs) {j : Nat} {v : Value} (hj : vs[j]? = some v) : m'.cell? ⟨b, j, none⟩ = some v := by
  obtain ⟨junk, hb⟩ := h.there
  rw [cell_of_row m' b j _ _ _ hb]
  have := (List.getElem?_eq_some_iff.1 hj).1
  simp [List.getElem?_append_left this, hj]
end Go.Vc

namespace Go.Vc
open Go
section
variable (P : Program) (n : Nat) (K : KE) (f g : Regs) (L : Lst) (m : World)
theorem a0 : vc P n .skip K f L m = K .normal f L m := rfl
theorem a1 (l : Nat) : vc P n (.label l) K f L m = K .normal f L m := rfl
theorem a2 (id : Nat) (ops : Array Oper) : vc P n (.region id ops false) K f L m = vcl P n ops (K .normal) ops.toList f L m := rfl
theorem a3 (x y : Code) : vc P n (.seq x y) K f L m = vc P n x (fun e => match e with | .normal => vc P n y K | e => K e) f L m := rfl
theorem a4 (c : Operand) (x y : Code) : vc P n (.cond c x y) K f L m = match ev f c with | .c (.v (.bool t)) => (t = true → vc P n x K f L m) ∧ (t = false → vc P n y K f L m) | _ => False := rfl
theorem a5 (id : Nat) (c : Code) : vc P n (.block id c) K f L m = vc P n c (fun e => match e with | .exit id' => if id' = id then K .normal else K (.exit id') | e => K e) f L m := rfl
theorem a6 (c : Code) : vc P n (.loop c) K f L m = vcLoop (dsts c) (vc P n c) K f L m := rfl
theorem a7 (id : Nat) : vc P n (.exit id) K f L m = K (.exit id) f L m := rfl
theorem a8 : vc P n .ret K f L m = K .ret f L m := rfl
theorem a9 (ops : Array Oper) (Q : K0) : vcl P n ops Q [] f L m = Q f L m := rfl
theorem a10 (ops : Array Oper) (Q : K0) (dst : Option Nat) (op : Op) (ty : TypeId) (pos : String) (af : Array Edge) (r : List Oper) : vcl P n ops Q (⟨dst, op, ty, pos, af, none⟩ :: r) f L m = vcOp P n ⟨dst, op, ty, pos, af, none⟩ (vcl P n ops Q r) f L m := rfl
theorem a12 (d : Nat) (v : SV) (s : Nat) : upd f d v s = if s = d then v else f s := rfl
theorem a13 (ws : List Nat) (s : Nat) : mix f ws g s = if inN ws s = true then g s else mixS ws (f s) := rfl
theorem a14 (d s : Nat) : killR d f s = killS d (f s) := rfl
theorem a15 (i b : Nat) (c : Option Nat) (s : Nat) : pubR i b c f s = pubS i b c (f s) := rfl
theorem a16 (i j s : Nat) : renR i j f s = renS i j (f s) := rfl
theorem a17 (s : Nat) : regs0 [] s = .c (.v undef) := rfl
theorem a18 (v : Value) (vs : List Value) : regs0 (v :: vs) 0 = .c (.v v) := rfl
theorem a19 (v : Value) (vs : List Value) (s : Nat) : regs0 (v :: vs) (s + 1) = regs0 vs s := rfl
theorem a20 (rs : List ResultVar) (R : Value → World → Prop) : endK P rs R .normal f L m = vcRet P rs R f L m := rfl
theorem a21 (rs : List ResultVar) (R : Value → World → Prop) : endK P rs R .ret f L m = vcRet P rs R f L m := rfl
theorem a22 (id : Nat) (ops : Array Oper) : vc P n (.region id ops true) K f L m = vcDrawn P n ops (K .normal) f L m := rfl
theorem a23 (ops : Array Oper) (Q : K0) : vcPlan P n ops Q .done f L m = Q f L m := rfl
theorem a24 (ops : Array Oper) (Q : K0) : vcPlan P n ops Q .nobr f L m = True := rfl
theorem a25 (ops : Array Oper) (Q : K0) (i : Nat) (p : Plan) : vcPlan P n ops Q (.take i p) f L m = match ops.toList[i]? with
    | some o => vcGuard n ops o (vcOp P n o) (vcPlan P n ops Q p) f L m
    | none => False := by simp only [vcPlan, Array.getElem?_toList]; cases ops[i]? <;> rfl
theorem a26 (ops : Array Oper) (Q : K0) (i : Nat) (p q : Plan) : vcPlan P n ops Q (.br i p q) f L m = ((match ops.toList[i]? with
    | some o => vcGuard n ops o (vcOpS P n o) (vcPlan P n ops Q p) f L m
    | none => False) ∧ vcPlan P n ops Q q f L m) := by simp only [vcPlan, Array.getElem?_toList]; cases ops[i]? <;> rfl
theorem a27 (ops : Array Oper) (S : K0 → K0) (Q : K0) (dst : Option Nat) (op : Op) (ty : TypeId) (pos : String) (af : Array Edge) : vcGuard n ops ⟨dst, op, ty, pos, af, none⟩ S Q f L m = S Q f L m := rfl
theorem a28 (ops : Array Oper) (S : K0 → K0) (Q : K0) (dst : Option Nat) (op : Op) (ty : TypeId) (pos : String) (af : Array Edge) (j : Nat) : vcGuard n ops ⟨dst, op, ty, pos, af, some (j, true)⟩ S Q f L m =
    match guardSlot ops j with
      | none => False
      | some g => match f g with
        | .c (.v (.bool b)) => Gd b (S Q) (upd f g (.c (.v (.bool true)))) Q (put n (upd f g (.c (.v (.bool false)))) dst (.c (.v undef))) L m
        | .c (.v (.tuple _)) => Q (put n f dst (.c (.v undef))) L m
        | _ => False := rfl
theorem a31 (ops : Array Oper) (S : K0 → K0) (Q : K0) (dst : Option Nat) (op : Op) (ty : TypeId) (pos : String) (af : Array Edge) (j : Nat) : vcGuard n ops ⟨dst, op, ty, pos, af, some (j, false)⟩ S Q f L m =
    match guardSlot ops j with
      | none => False
      | some g => match f g with
        | .c (.v (.bool b)) => Gd b Q (put n (upd f g (.c (.v (.bool true)))) dst (.c (.v undef))) (S Q) (upd f g (.c (.v (.bool false)))) L m
        | .c (.v (.tuple _)) => Q (put n f dst (.c (.v undef))) L m
        | _ => False := by
  rw [vcGuard]; simp only [Bool.not_false]
  cases guardSlot ops j with
  | none => rfl
  | some g => cases h : f g with
    | ag _ => simp [h]
    | c x => cases x with
      | v y => cases y <;> simp [h, Gd, And.comm]
      | _ => simp [h]
theorem a32 (KA : K0) (fA : Regs) (KB : K0) (fB : Regs) : Gd true KA fA KB fB L m = KA fA L m := by simp [Gd]
theorem a33 (KA : K0) (fA : Regs) (KB : K0) (fB : Regs) : Gd false KA fA KB fB L m = KB fB L m := by simp [Gd]
theorem a29 (ops : Array Oper) (j : Nat) : guardSlot ops j = (ops.toList[j]?).bind (·.dst) := by rw [guardSlot, Array.getElem?_toList]
theorem a37 (ops : Array Oper) (Q : K0) (lt : List Nat) (i : Nat) (p q : PlanL) : vcPlanL P n ops Q lt (.br i p q) f L m = (deads ops lt f ∧ (match ops.toList[i]? with
    | some o => vcGuard n ops o (vcOpS P n o) (vcPlanL P n ops Q lt p) f L m
    | none => False) ∧ vcPlanL P n ops Q lt q f L m) := by rw [Array.getElem?_toList, vcPlanL]; rfl
end
end Go.Vc

namespace Go.Vc
open Go Go.RowKit

/-- All that is seen and does not lie in F is as it was; nothing that was seen is lost. -/
structure Chg (F : List Nat) (m m' : World) : Prop where
  blocks : ∀ b, vis m b → b ∉ F → m'.heap[b]? = m.heap[b]?
  seen : ∀ b, vis m b → vis m' b
  os : m'.os = m.os
  tape : m'.tape = m.tape
  output : m'.output = m.output

theorem Grow.chg {m m' : World} (g : Grow m m') (F : List Nat) : Chg F m m' := ⟨fun b hb _ => g.blocks b hb, fun b hb => g.vis hb, g.os, g.tape, g.output⟩
theorem Chg.refl (F : List Nat) (m : World) : Chg F m m := (Grow.refl m).chg F
theorem Chg.trans {F : List Nat} {a b c : World} (h : Chg F a b) (k : Chg F b c) : Chg F a c :=
  ⟨fun i hi hn => (k.blocks i (h.seen i hi) hn).trans (h.blocks i hi hn), fun i hi => k.seen i (h.seen i hi), k.os.trans h.os, k.tape.trans h.tape, k.output.trans h.output⟩
theorem Chg.mono {F G : List Nat} {m m' : World} (h : Chg F m m') (hs : ∀ b ∈ F, b ∈ G) : Chg G m m' := ⟨fun b hb hn => h.blocks b hb fun hf => hn (hs b hf), h.seen, h.os, h.tape, h.output⟩
mutual
theorem CellF.monoF {m m' : World} : ∀ (d : D) {v : Value} {F : List Nat}, (∀ b ∈ F, m'.heap[b]? = m.heap[b]?) → CellF m d v F → CellF m' d v F
  | .lit u, v, F, _, hc => hc
  | .sl n ds, v, F, h, hc => by
    obtain ⟨a, cap, h1, h2, h3, h4, hc⟩ := hc
    refine ⟨a, cap, h1, h2, h3, h4, hc.imp id ?_⟩
    rintro ⟨hne, b, o, F', h5, h6, h7⟩
    exact ⟨hne, b, o, F', h5, RowF.monoF b ds (h b (by rw [h7]; simp)) (fun x hx => h x (by rw [h7]; simp [hx])) h6, h7⟩
theorem RowF.monoF {m m' : World} (b : Nat) : ∀ (ds : List D) {o : Nat} {F : List Nat}, m'.heap[b]? = m.heap[b]? → (∀ x ∈ F, m'.heap[x]? = m.heap[x]?) → RowF m b o ds F → RowF m' b o ds F
  | [], o, F, _, _, hc => hc
  | d :: ds, o, F, hb, h, hc => by
    obtain ⟨v, F1, F2, h1, h2, h3, h4⟩ := hc
    refine ⟨v, F1, F2, ?_, CellF.monoF d (fun x hx => h x (by rw [h4]; simp [hx])) h2, RowF.monoF b ds hb (fun x hx => h x (by rw [h4]; simp [hx])) h3, h4⟩
    rw [World.cell?_of_block (w := m) (w' := m') (a := ⟨b, o, none⟩) hb]; exact h1
end
theorem ValsF.monoF {m m' : World} : ∀ {ds : List D} {vs : List Value} {F : List Nat}, (∀ b ∈ F, m'.heap[b]? = m.heap[b]?) → ValsF m ds vs F → ValsF m' ds vs F
  | [], [], _, _, hc => hc
  | d :: ds, v :: vs, F, h, hc => by
    obtain ⟨F1, F2, h1, h2, h3⟩ := hc
    exact ⟨F1, F2, CellF.monoF d (fun x hx => h x (by rw [h3]; simp [hx])) h1, ValsF.monoF (fun x hx => h x (by rw [h3]; simp [hx])) h2, h3⟩
  | [], _ :: _, _, _, hc => hc.elim
  | _ :: _, [], _, _, hc => hc.elim
theorem ValsF.chg {m m' : World} {F G : List Nat} (c : Chg F m m') (hd : ∀ b ∈ G, b ∉ F) {ds : List D} {vs : List Value} (h : ValsF m ds vs G) : ValsF m' ds vs G :=
  h.monoF fun b hb => c.blocks b (h.vis b hb) (hd b hb)
theorem CellF.chg {m m' : World} {F G : List Nat} (c : Chg F m m') (hd : ∀ b ∈ G, b ∉ F) {d : D} {v : Value} (h : CellF m d v G) : CellF m' d v G :=
  CellF.monoF d (fun b hb => c.blocks b (CellF.vis d h b hb) (hd b hb)) h

/-- Blocks of plain cells, none of them frozen. -/
def Own (m : World) (F : List Nat) : Prop := ∀ b ∈ F, ∃ cs t, m.heap[b]? = some (.cells cs t (0, 0))
theorem Own.nil (m : World) : Own m [] := fun _ h => by cases h
theorem vis_of_own {m : World} {b : Nat} (h : ∃ cs t, m.heap[b]? = some (.cells cs t (0, 0))) : vis m b := by
  obtain ⟨cs, t, h⟩ := h; exact ⟨_, h, by simp [hid]⟩
theorem Own.grow {m m' : World} (g : Grow m m') {F : List Nat} (h : Own m F) : Own m' F := fun b hb => by
  have hv := vis_of_own (h b hb)
  obtain ⟨cs, t, e⟩ := h b hb
  exact ⟨cs, t, (g.blocks b hv).trans e⟩
theorem Own.app {m : World} {F G : List Nat} (h : Own m F) (k : Own m G) : Own m (F ++ G) := fun b hb => (List.mem_append.1 hb).elim (h b) (k b)
theorem Own.frozen {m : World} {F : List Nat} (h : Own m F) {ad : Addr} (hb : ad.block ∈ F) : m.frozen? ad = false := by
  obtain ⟨cs, t, e⟩ := h _ hb
  simp [World.frozen?, e]
/-- A store into one cell of an own block. -/
theorem Chg.store {m : World} {b o : Nat} {v : Value} : Chg [b] m (m.setCell ⟨b, o, none⟩ v) := by
  refine ⟨fun x hx hn => Go.heap_setCell_other m _ x v (by simp at hn; simpa using hn), fun x hx => ?_, rfl, rfl, rfl⟩
  obtain ⟨ob, ho, hne⟩ := hx
  by_cases hxb : x = b
  · subst hxb
    simp only [vis, World.setCell, Array.getElem?_modify, if_true, ho, Option.map_some]
    cases ob with
    | cells c e fr => exact ⟨_, rfl, by simp [hid]⟩
    | _ => exact ⟨_, rfl, hne⟩
  · exact ⟨ob, (Go.heap_setCell_other m _ x v (by simpa using hxb)).trans ho, hne⟩
theorem Own.store {m : World} {F : List Nat} {ad : Addr} {v : Value} (h : Own m F) : Own (m.setCell ad v) F := fun x hx => by
  obtain ⟨cs, t, e⟩ := h x hx
  by_cases hxb : x = ad.block
  · subst hxb
    refine ⟨if ad.spot.isSome then cs else cs.setIfInBounds ad.off v, t, ?_⟩
    simp only [World.setCell, Array.getElem?_modify, if_true, e, Option.map_some]
  · exact ⟨cs, t, (Go.heap_setCell_other m ad x v hxb).trans e⟩
end Go.Vc

namespace Go.Vc
open Go Go.RowKit
/-- A row of cells in memory. -/
def Cells (m : World) (b o : Nat) (vs : List Value) : Prop := ∀ j v, vs[j]? = some v → m.cell? ⟨b, o + j, none⟩ = some v
theorem Cells.mono {m m' : World} {b o : Nat} {vs : List Value} (hb : m'.heap[b]? = m.heap[b]?) (h : Cells m b o vs) : Cells m' b o vs := fun j v hj => by
  rw [World.cell?_of_block (w := m) (w' := m') (a := ⟨b, o + j, none⟩) hb]; exact h j v hj
theorem Cells.chg {m m' : World} {b o : Nat} {vs : List Value} {F : List Nat} (c : Chg F m m') (hb : b ∉ F) (h : Cells m b o vs) : Cells m' b o vs := fun j v hj =>
  Cells.mono (c.blocks b (vis_of_cell (h j v hj)) hb) h j v hj
theorem Cells.grow {m m' : World} {b o : Nat} {vs : List Value} (g : Grow m m') (h : Cells m b o vs) : Cells m' b o vs := h.chg (g.chg []) (by simp)
/-- One cell of the row is written. -/
theorem Cells.store {m : World} {b o j : Nat} {vs : List Value} {v : Value} (h : Cells m b o vs) (hj : j < vs.length) : Cells (m.setCell ⟨b, o + j, none⟩ v) b o (vs.set j v) := fun i u hi => by
  rw [List.getElem?_set] at hi
  by_cases hij : j = i
  · subst hij
    simp only [hj, if_true, Option.some.injEq] at hi
    subst hi
    obtain ⟨w, hw⟩ : ∃ w, vs[j]? = some w := ⟨_, List.getElem?_eq_getElem hj⟩
    have hc := h j w hw
    unfold World.cell? at hc ⊢
    simp only [World.setCell, Array.getElem?_modify, if_true]
    split at hc
    · rename_i c t fr e
      simp only [e, Option.map_some]
      simp only [Option.isSome_none, Bool.false_eq_true, if_false] at hc ⊢
      have := (Array.getElem?_eq_some_iff.1 hc).1
      simp [Array.getElem?_setIfInBounds, this]
    · cases hc
  · simp only [hij, if_false] at hi
    rw [World.cell?_setCell_other _ _ _ _ (by intro e; injection e with _ e _; omega)]
    exact h i u hi
theorem Cells.store_at {m : World} {b o i j : Nat} {va ve vb : List Value} {v : Value} (h : Cells m b o (va ++ (ve ++ vb))) (hi : va.length = i) (hj : j < ve.length) :
    Cells (m.setCell ⟨b, o + i + j, none⟩ v) b o (va ++ (ve.set j v ++ vb)) := by
  have := h.store (v := v) (j := i + j) (by simp; omega)
  rw [← Nat.add_assoc] at this
  have e : (va ++ (ve ++ vb)).set (i + j) v = va ++ (ve.set j v ++ vb) := by
    rw [List.set_append_right _ _ (by omega), hi, Nat.add_sub_cancel_left, List.set_append_left _ _ hj]
  rw [e] at this; exact this
theorem Cells.at {m : World} {b o i : Nat} {va ve vb : List Value} (h : Cells m b o (va ++ (ve ++ vb))) (hi : va.length = i) : Cells m b (o + i) ve := fun j v hj => by
  have := h (i + j) v (by rw [List.getElem?_append_right (by omega), hi, Nat.add_sub_cancel_left, List.getElem?_append_left (List.getElem?_eq_some_iff.1 hj).1]; exact hj)
  rw [← Nat.add_assoc] at this; exact this
end Go.Vc

namespace Go.Vc
open Go Go.RowKit
theorem Own.chg {F G : List Nat} {m m' : World} (c : Chg G m m') (hG : Own m' G) (h : Own m F) : Own m' F := fun b hb => by
  by_cases hg : b ∈ G
  · exact hG b hg
  · obtain ⟨cs, t, e⟩ := h b hb
    exact ⟨cs, t, (c.blocks b (vis_of_own ⟨cs, t, e⟩) hg).trans e⟩
theorem Own.sub {F G : List Nat} {m : World} (h : Own m F) (hs : ∀ b ∈ G, b ∈ F) : Own m G := fun b hb => h b (hs b hb)
/-- A row of cells in an own block that is being written from left to right: ds is done, es is to be done. -/
def Mrk1 (m0 : World) (F : List Nat) (m : World) (b o : Nat) (ds es : List D) : Prop :=
  ∃ v1 v2 F1 F2, F = b :: (F1 ++ F2) ∧ F.Nodup ∧ Own m F ∧ Chg F m0 m ∧ Cells m b o (v1 ++ v2) ∧ ValsF m ds v1 F1 ∧ ValsF m es v2 F2 ∧ ds ++ es ≠ []
def Mrk (m0 : World) (F : List Nat) (m : World) (a : Option Addr) (ds es : List D) : Prop :=
  (ds = [] ∧ es = [] ∧ F = [] ∧ Chg [] m0 m) ∨ ∃ b o, a = some ⟨b, o, none⟩ ∧ Mrk1 m0 F m b o ds es
theorem Mrk.done {m0 m : World} {a : Option Addr} {n cap : Nat} {ds : List D} {F : List Nat} (h : Mrk m0 F m a ds []) (h1 : n ≤ cap) (h2 : cap ≤ maxLen) (h3 : a = none → cap = 0) :
    CellF m (.sl n ds) (.slice a n cap) F ∧ Own m F ∧ Chg F m0 m := by
  rcases h with ⟨rfl, _, rfl, hc⟩ | ⟨b, o, rfl, v1, v2, F1, F2, rfl, hn, ho, hc, hcl, hv1, hv2, hne⟩
  · exact ⟨⟨a, cap, rfl, h1, h2, h3, .inl ⟨rfl, rfl⟩⟩, Own.nil _, hc⟩
  · cases v2 with
    | cons _ _ => exact hv2.elim
    | nil =>
      have hv2 : F2 = [] := hv2
      subst hv2
      rw [List.append_nil] at hcl hne ho hc ⊢
      exact ⟨⟨_, cap, rfl, h1, h2, h3, .inr ⟨hne, b, o, F1, rfl, hv1.row hcl, rfl⟩⟩, ho, hc⟩
theorem Mrk.open {m0 m : World} {a : Option Addr} {ds es : List D} {F : List Nat} (h : Mrk m0 F m a ds es) (hne : es ≠ []) : ∃ b o, a = some ⟨b, o, none⟩ ∧ Mrk1 m0 F m b o ds es := by
  rcases h with ⟨_, h, _⟩ | h
  · exact absurd h hne
  · exact h
theorem Mrk1.here {m0 m : World} {b o p : Nat} {u : Value} {ds es : List D} {F : List Nat} (h : Mrk1 m0 F m b o ds (.lit u :: es)) (hp : p = o + ds.length) :
    (m.cell? ⟨b, p, none⟩).isSome = true ∧ m.frozen? ⟨b, p, none⟩ = false := by
  obtain ⟨v1, v2, F1, F2, rfl, hn, ho, hc, hcl, hv1, hv2, _⟩ := h
  subst hp
  refine ⟨?_, ho.frozen (by simp)⟩
  cases v2 with
  | nil => exact hv2.elim
  | cons v v2 =>
    have := hcl v1.length v (by rw [List.getElem?_append_right (by omega)]; simp)
    rw [hv1.length] at this
    rw [this]; rfl
theorem Mrk1.store {m0 m : World} {b o p : Nat} {u u' : Value} {ds es : List D} {F : List Nat} (h : Mrk1 m0 F m b o ds (.lit u :: es)) (hp : p = o + ds.length) (hu : okV u') :
    Mrk1 m0 F (m.setCell ⟨b, p, none⟩ u') b o (ds ++ [.lit u']) es := by
  obtain ⟨v1, v2, F1, F2, rfl, hn, ho, hc, hcl, hv1, hv2, _⟩ := h
  subst hp
  cases v2 with
  | nil => exact hv2.elim
  | cons v v2 =>
    obtain ⟨G1, G2, ⟨_, rfl, _⟩, hv2, rfl⟩ := hv2
    have hs := Cells.store_at (va := v1) (ve := [v]) (vb := v2) (i := ds.length) (j := 0) (v := u') hcl hv1.length (by simp)
    simp only [List.nil_append, List.nodup_cons, List.mem_append, not_or] at hn ⊢
    have c : Chg [b] m (m.setCell ⟨b, o + ds.length, none⟩ u') := Chg.store
    have hd1 : ∀ x ∈ F1, x ∉ [b] := fun x hx e => hn.1.1 (by simp at e; exact e ▸ hx)
    have hd2 : ∀ x ∈ F2, x ∉ [b] := fun x hx e => hn.1.2 (by simp at e; exact e ▸ hx)
    refine ⟨v1 ++ [u'], v2, F1, F2, rfl, by simpa using hn, ho.store, hc.trans (c.mono (by simp)), ?_, ?_, hv2.chg c hd2, by simp⟩
    · simpa using hs
    · have hj := (hv1.chg c hd1).join (ValsF.single (m := m.setCell ⟨b, o + ds.length, none⟩ u') (d := .lit u') (v := u') (F := []) ⟨rfl, rfl, hu⟩)
      rwa [List.append_nil] at hj
/-- The next cell leads on to data of its own. -/
theorem Mrk1.load {m0 m : World} {b o p : Nat} {d : D} {ds es : List D} {F : List Nat} (h : Mrk1 m0 F m b o ds (d :: es)) (hp : p = o + ds.length) :
    ∃ v G, m.cell? ⟨b, p, none⟩ = some v ∧ CellF m d v G ∧ G.Nodup ∧ Own m G ∧
      ∀ m' d', Chg G m m' → CellF m' d' v G → Own m' G → Mrk1 m0 F m' b o (ds ++ [d']) es := by
  obtain ⟨v1, v2, F1, F2, rfl, hn, ho, hc, hcl, hv1, hv2, _⟩ := h
  subst hp
  cases v2 with
  | nil => exact hv2.elim
  | cons v v2 =>
    obtain ⟨G1, G2, hd, hv2, rfl⟩ := hv2
    have hat := hcl v1.length v (by rw [List.getElem?_append_right (by omega)]; simp)
    rw [hv1.length] at hat
    have hn' := hn
    simp only [List.nodup_cons, List.nodup_append, List.mem_append, not_or] at hn'
    obtain ⟨⟨nb1, nbg, nb2⟩, n1, ⟨ng, n2, ng2⟩, n12⟩ := hn'
    refine ⟨v, G1, hat, hd, ng, ho.sub (by simp; intro x hx; simp [hx]), fun m' d' c hd' ho' => ?_⟩
    refine ⟨v1 ++ [v], v2, F1 ++ G1, G2, by simp, hn, Own.chg c ho' ho, hc.trans (c.mono (by simp; intro x hx; simp [hx])), ?_, ?_, hv2.chg c (fun x hx e => ng2 x e x hx rfl), by simp⟩
    · have := hcl.chg c nbg
      simpa using this
    · exact (hv1.chg c (fun x hx e => n12 x hx x (.inl e) rfl)).join (ValsF.single hd')
theorem Mrk1.st {m0 m : World} {b o : Nat} {u : Value} {ds es : List D} {F : List Nat} (h : Mrk1 m0 F m b o ds (.lit u :: es)) (p : Nat) (u' : Value) (hp : p = o + ds.length) (hu : okV u') :
    (∀ j, j < 1 → (m.cell? ⟨b, p + j, none⟩).isSome = true ∧ m.frozen? ⟨b, p + j, none⟩ = false) ∧ ∃ m', setCells m ⟨b, p, none⟩ [u'] = m' ∧ Mrk1 m0 F m' b o (ds ++ [.lit u']) es :=
  ⟨fun j hj => by obtain rfl : j = 0 := by omega
                  exact h.here hp, _, rfl, h.store hp hu⟩
theorem Mrk1.grow {m0 m m' : World} {b o : Nat} {ds es : List D} {F : List Nat} (g : Grow m m') (h : Mrk1 m0 F m b o ds es) : Mrk1 m0 F m' b o ds es := by
  obtain ⟨v1, v2, F1, F2, rfl, hn, ho, hc, hcl, hv1, hv2, hne⟩ := h
  exact ⟨v1, v2, F1, F2, rfl, hn, ho.grow g, hc.trans (g.chg _), hcl.grow g, hv1.grow g, hv2.grow g, hne⟩
theorem vcLoop.ren {ws : List Nat} {body : KE → K0} {K : KE} {f : Regs} {L : Lst} {m : World} (i j : Nat) (hij : i ≠ j) (hj : inN ws j = true) (I : Regs → Lst → World → Prop) (μ : Regs → Lst → World → Nat)
    (h0 : ∃ L0, Sub L0 (renL i j L) ∧ I (mix (renR i j f) ws (renR i j f)) L0 m)
    (h : ∀ g L1 m1, I (mix (renR i j f) ws g) L1 m1 → body (fun e f' L' m' => match e with
      | .normal => ∃ L2, Sub L2 L' ∧ I (mix (renR i j f) ws f') L2 m' ∧ μ (mix (renR i j f) ws f') L2 m' < μ (mix (renR i j f) ws g) L1 m1
      | e => K e f' L' m') (mix (renR i j f) ws g) L1 m1) : vcLoop ws body K f L m := ⟨[(i, j)], hij, hj, I, μ, h0, h⟩
theorem Sub.head (i : Nat) (b : Box) (R : Lst) : Sub [(i, b)] ((i, b) :: R) := Sub.cons (by simp [look]) (Sub.nil _)
theorem Own.vis {m : World} {F : List Nat} (h : Own m F) : ∀ b ∈ F, Go.Vc.vis m b := fun b hb => vis_of_own (h b hb)
/-- New and own blocks, seen from the world of the call. -/
structure NewOwn (m m' : World) (F : List Nat) : Prop where
  grow : Grow m m'
  fresh : Fresh m F
  own : Own m' F
theorem NewOwn.nil {m : World} : NewOwn m m [] := ⟨Grow.refl _, Fresh.nil _, Own.nil _⟩
theorem NewOwn.step {m m1 m2 : World} {F G : List Nat} (h : NewOwn m m1 F) (g : Grow m1 m2) (f : Fresh m1 G) (o : Own m2 G) : NewOwn m m2 (F ++ G) :=
  ⟨h.grow.trans g, h.fresh.join h.grow h.own.vis f, (h.own.grow g).app o⟩
theorem NewOwn.go {m m1 m2 : World} {F : List Nat} (h : NewOwn m m1 F) (g : Grow m1 m2) : NewOwn m m2 F := ⟨h.grow.trans g, h.fresh, h.own.grow g⟩
theorem Sub.at (i : Nat) {b : Box} {A B : Lst} (h : look B i = some b) (k : Sub A B) : Sub ((i, b) :: A) B := Sub.cons h k
/-- All cells of a slice, for an append. -/
theorem CellF.news {m : World} {ds : List D} {n cap : Nat} {ad : Addr} {F : List Nat} (h : CellF m (.sl n ds) (.slice (some ad) n cap) F) :
    ∃ vs G, vs.length = ds.length ∧ (∀ i v, vs[i]? = some v → m.cell? (ad.add i) = some v) ∧ ValsF m ds vs G := by
  obtain ⟨a', cap', h1, _, _, _, hc⟩ := h
  injection h1 with h1 _ _
  subst h1
  rcases hc with ⟨rfl, _⟩ | ⟨_, b, o, F', e, hr, _⟩
  · exact ⟨[], [], rfl, by simp, rfl⟩
  · injection e with e
    subst e
    obtain ⟨vs, hvs, hv⟩ := hr.vals
    exact ⟨vs, F', hv.length, fun i v hi => by rw [add_lit0]; exact hvs i v hi, hv⟩
end Go.Vc

namespace Go.Vc
open Go Go.RowKit
/-- A row of cells in an own block, element by element anew: ds is done (its blocks may be new), es is as it was. -/
def Sd (m0 : World) (F0 : List Nat) (m : World) (b o : Nat) (ds es : List D) : Prop :=
  ∃ v1 v2 F1 F2, (b :: (F1 ++ F2)).Nodup ∧ Own m (b :: (F1 ++ F2)) ∧ Chg F0 m0 m ∧ b ∈ F0 ∧ (∀ x ∈ F2, x ∈ F0) ∧ (∀ x ∈ F1, x ∈ F0 ∨ ¬ Go.Vc.vis m0 x) ∧ Cells m b o (v1 ++ v2) ∧ ValsF m ds v1 F1 ∧ ValsF m es v2 F2
theorem chg_setCells {b : Nat} : ∀ (us : List Value) (o : Nat) (m : World), Chg [b] m (setCells m ⟨b, o, none⟩ us)
  | [], _, _ => Chg.refl _ _
  | u :: us, o, m => by
    have := chg_setCells (b := b) us (o + 1) (m.setCell ⟨b, o, none⟩ u)
    refine Chg.trans (Chg.store (v := u) (o := o)) ?_
    have e : (⟨b, o, none⟩ : Addr).add 1 = ⟨b, o + 1, none⟩ := add_lit0 b o 1
    simp only [setCells, e]; exact this
theorem own_setCells {b : Nat} {F : List Nat} : ∀ (us : List Value) (o : Nat) (m : World), Own m F → Own (setCells m ⟨b, o, none⟩ us) F
  | [], _, _, h => h
  | u :: us, o, m, h => by
    have e : (⟨b, o, none⟩ : Addr).add 1 = ⟨b, o + 1, none⟩ := add_lit0 b o 1
    simp only [setCells, e]; exact own_setCells us (o + 1) _ h.store
theorem Cells.storeL {b o : Nat} : ∀ (us ve va vb : List Value) (i : Nat) (m : World), Cells m b o (va ++ (ve ++ vb)) → va.length = i → us.length = ve.length → Cells (setCells m ⟨b, o + i, none⟩ us) b o (va ++ (us ++ vb))
  | [], [], _, _, _, _, h, _, _ => h
  | u :: us, x :: ve, va, vb, i, m, h, hi, hl => by
    have e : (⟨b, o + i, none⟩ : Addr).add 1 = ⟨b, o + (i + 1), none⟩ := by rw [add_lit0, Nat.add_assoc]
    simp only [setCells, e]
    have h1 := Cells.store_at (va := va) (ve := x :: ve) (vb := vb) (v := u) (j := 0) h hi (by simp)
    simp only [Nat.add_zero, List.set_cons_zero] at h1
    have h2 := Cells.storeL us ve (va ++ [u]) vb (i + 1) (m.setCell ⟨b, o + i, none⟩ u) (by simpa using h1) (by simp [hi]) (by simpa using hl)
    simpa using h2
  | [], _ :: _, _, _, _, _, _, _, hl => by simp at hl
  | _ :: _, [], _, _, _, _, _, _, hl => by simp at hl
theorem Sd.done {m0 m : World} {b o n cap : Nat} {ds : List D} {F : List Nat} (h : Sd m0 F m b o ds []) (hd : ds ≠ []) (h1 : n ≤ cap) (h2 : cap ≤ maxLen) :
    ∃ F', CellF m (.sl n ds) (.slice (some ⟨b, o, none⟩) n cap) F' ∧ F'.Nodup ∧ Own m F' ∧ Chg F m0 m ∧ (∀ x ∈ F', x ∈ F ∨ ¬ Go.Vc.vis m0 x) := by
  obtain ⟨v1, v2, F1, F2, hn, ho, hc, hb, hF2, hF1, hcl, hv1, hv2⟩ := h
  cases v2 with
  | cons _ _ => exact hv2.elim
  | nil =>
    have hv2 : F2 = [] := hv2
    subst hv2
    rw [List.append_nil] at hn ho hcl
    exact ⟨b :: F1, ⟨_, cap, rfl, h1, h2, by simp, .inr ⟨hd, b, o, F1, rfl, hv1.row hcl, rfl⟩⟩, hn, ho, hc, fun x hx => by
      rcases List.mem_cons.1 hx with rfl | hx
      · exact .inl hb
      · exact hF1 x hx⟩
theorem Sd.step {m0 m : World} {b o p : Nat} {row ds es : List D} {F : List Nat} (h : Sd m0 F m b o ds (row ++ es)) (hp : p = o + ds.length) :
    ∃ ve Fe, (∀ j v, ve[j]? = some v → m.cell? ⟨b, p + j, none⟩ = some v) ∧ ValsF m row ve Fe ∧ Fe.Nodup ∧ Own m Fe ∧ (∀ x ∈ Fe, x ∈ F) ∧
      ∀ m' row' us Fe', Chg Fe m m' → ValsF m' row' us Fe' → Fe'.Nodup → Own m' Fe' → (∀ x ∈ Fe', x ∈ Fe ∨ ¬ Go.Vc.vis m x) → us.length = row.length →
        (∀ j, j < row.length → (m'.cell? ⟨b, p + j, none⟩).isSome = true ∧ m'.frozen? ⟨b, p + j, none⟩ = false) ∧ Sd m0 F (setCells m' ⟨b, p, none⟩ us) b o (ds ++ row') es := by
  obtain ⟨v1, v2, F1, F2, hn, ho, hc, hb, hF2, hF1, hcl, hv1, hv2⟩ := h
  obtain ⟨ve, vb, Fe, Fb, rfl, rfl, hve, hvb⟩ := hv2.split
  subst hp
  have hat := Cells.at hcl hv1.length
  have hn' := hn
  simp only [List.nodup_cons, List.nodup_append, List.mem_append, not_or] at hn'
  obtain ⟨⟨nb1, nbe, nb2⟩, n1, ⟨ne, n2, ne2⟩, n12⟩ := hn'
  refine ⟨ve, Fe, fun j v hj => hat j v hj, hve, ne, ho.sub (by simp; intro x hx; simp [hx]), fun x hx => hF2 x (by simp [hx]), fun m' row' us Fe' c hv' hn'' ho' hsub hlen => ?_⟩
  have hcl' := hcl.chg c nbe
  have off : ∀ {A : List Nat}, Own m A → (∀ x ∈ A, x ∉ Fe) → Own m' A := fun hA hd x hx => by
    obtain ⟨cs, t, e⟩ := hA x hx
    exact ⟨cs, t, (c.blocks x (vis_of_own ⟨cs, t, e⟩) (hd x hx)).trans e⟩
  have hb' : Own m' [b] := off (ho.sub (by simp)) (by simpa using nbe)
  have d1 : ∀ x ∈ F1, x ∉ Fe := fun x hx e => n12 x hx x (.inl e) rfl
  have d2 : ∀ x ∈ Fb, x ∉ Fe := fun x hx e => ne2 x e x hx rfl
  have o1 : Own m' F1 := off (ho.sub (by simp; intro x hx; simp [hx])) d1
  have o2 : Own m' Fb := off (ho.sub (by simp; intro x hx; simp [hx])) d2
  have hv1' := hv1.chg c d1
  have hvb' := hvb.chg c d2
  have hlu : us.length = ve.length := by rw [hlen, hve.length]
  have cs := chg_setCells (b := b) us (o + ds.length) m'
  have visF : ∀ x, Go.Vc.vis m x → x ∉ Fe → x ∉ Fe' := fun x hx hd hf => by
    rcases hsub x hf with h | h
    · exact hd h
    · exact h hx
  have nbe' : b ∉ Fe' := visF b (vis_of_own (ho b (by simp))) nbe
  have e1 : ∀ x ∈ F1, x ∉ Fe' := fun x hx => visF x (hv1.vis x hx) (d1 x hx)
  have e2 : ∀ x ∈ Fb, x ∉ Fe' := fun x hx => visF x (hvb.vis x hx) (d2 x hx)
  have k1 : ∀ x ∈ F1, x ∉ [b] := fun x hx e => nb1 (by simp at e; exact e ▸ hx)
  have k2 : ∀ x ∈ Fb, x ∉ [b] := fun x hx e => nb2 (by simp at e; exact e ▸ hx)
  have ke : ∀ x ∈ Fe', x ∉ [b] := fun x hx e => nbe' (by simp at e; exact e ▸ hx)
  refine ⟨fun j hj => ⟨?_, hb'.frozen (by simp)⟩, v1 ++ us, vb, F1 ++ Fe', Fb, ?_, ?_, ?_, hb, fun x hx => hF2 x (by simp [hx]), fun x hx => ?_, ?_, ?_, hvb'.chg cs k2⟩
  · obtain ⟨u, hu⟩ : ∃ u, ve[j]? = some u := ⟨_, List.getElem?_eq_getElem (by rw [hve.length]; exact hj)⟩
    have := (Cells.at hcl' hv1.length) j u hu
    rw [this]; rfl
  · simp only [List.nodup_cons, List.nodup_append, List.mem_append, not_or]
    refine ⟨⟨⟨nb1, nbe'⟩, nb2⟩, ⟨n1, hn'', fun x hx y hy e => e1 x hx (e ▸ hy)⟩, n2, fun x hx y hy e => ?_⟩
    rcases hx with hx | hx
    · exact n12 x hx y (.inr hy) e
    · exact e2 y hy (e ▸ hx)
  · refine own_setCells us _ _ ?_
    intro x hx
    simp only [List.mem_cons, List.mem_append] at hx
    rcases hx with rfl | (hx | hx) | hx
    · exact hb' _ (by simp)
    · exact o1 x hx
    · exact ho' x hx
    · exact o2 x hx
  · exact (hc.trans (c.mono fun x hx => hF2 x (by simp [hx]))).trans (cs.mono fun x hx => by simp at hx; exact hx ▸ hb)
  · rcases List.mem_append.1 hx with hx | hx
    · exact hF1 x hx
    · rcases hsub x hx with h | h
      · exact .inl (hF2 x (by simp [h]))
      · exact .inr fun hv => h (hc.seen x hv)
  · have := Cells.storeL us ve v1 vb ds.length m' hcl' hv1.length hlu
    rwa [List.append_assoc]
  · exact (hv1'.chg cs k1).join (hv'.chg cs ke)
/-- Cells that stay as they are. -/
theorem Sd.skip {m0 m : World} {b o : Nat} {row ds es : List D} {F : List Nat} (h : Sd m0 F m b o ds (row ++ es)) : Sd m0 F m b o (ds ++ row) es := by
  obtain ⟨v1, v2, F1, F2, hn, ho, hc, hb, hF2, hF1, hcl, hv1, hv2⟩ := h
  obtain ⟨ve, vb, Fe, Fb, rfl, rfl, hve, hvb⟩ := hv2.split
  refine ⟨v1 ++ ve, vb, F1 ++ Fe, Fb, by simpa using hn, by simpa using ho, hc, hb, fun x hx => hF2 x (by simp [hx]), fun x hx => ?_, by simpa using hcl, hv1.join hve, hvb⟩
  rcases List.mem_append.1 hx with hx | hx
  · exact hF1 x hx
  · exact .inl (hF2 x (by simp [hx]))
end Go.Vc

namespace Go.Vc
open Go Go.RowKit

/-- A contract told of the very world: the call has only grown it. -/
theorem FCalls.top {P : Program} {f : FuncId} {args : Array Value} {W : World} {R : Value → World → Prop} (h : FCalls P f args W R) (hR : ∀ v m', R v m' → Grow W m') :
    Calls P f args W fun e w' => ∃ v m', e = .returned v ∧ Below W.heap.size W w' ∧ (∀ a, w'.frozen? a = W.frozen? a) ∧ Under m' w' ∧ R v m' := by
  refine (h.2 W (Under.refl W)).mono ?_
  rintro e w' ⟨v, m', he, hu, hwd, hfr, hR'⟩
  have g := hR _ _ hR'
  refine ⟨v, m', he, ⟨hu.os.trans g.os, hu.tape.trans g.tape, hu.output.trans g.output, hwd.1, fun b hb => ?_⟩, hwd.2, hu, hR'⟩
  by_cases hv : vis W b
  · exact (hu.blocks b (g.vis hv)).trans (g.blocks b hv)
  · exact (hfr b hb hv).1

section
variable {H : Type} {enc : TypeId × Value → H} {P : Program} {W : World} {base : Nat} {sp : Nat → Bool} {held : Bool}

theorem list_one {α : Type} {l : List α} (h : l.length = 1) : ∃ a, l = [a] := by
  match l, h with
  | [a], _ => exact ⟨a, rfl⟩
theorem list_cons {α : Type} {l : List α} {n : Nat} (h : l.length = n + 1) : ∃ a r, l = a :: r ∧ r.length = n := by
  match l, h with
  | a :: r, h => exact ⟨a, r, rfl, by simpa using h⟩

/-- The elements that are read one by one, as one row. -/
theorem gather {α : Type} {row : α → List D} {sz : Nat} {a : Addr} : ∀ (len : Nat),
    (∀ i, i < len → ∃ (y : α) (F : List Nat) (cs : List Value), cs.length = sz ∧ (∀ j, j < sz → W.cell? ((a.add (i * sz)).add j) = cs[j]?) ∧ ValsF W (row y) cs F) →
    ∃ (ys : List α) (vs : List Value) (F : List Nat), ys.length = len ∧ vs.length = len * sz ∧ ValsF W (ys.flatMap row) vs F ∧ ∀ j v, vs[j]? = some v → W.cell? (a.add j) = some v
  | 0, _ => ⟨[], [], [], rfl, by simp, rfl, by simp⟩
  | len + 1, h => by
    obtain ⟨ys, vs, F, h1, h2, h3, h4⟩ := gather len fun i hi => h i (Nat.lt_succ_of_lt hi)
    obtain ⟨y, F', cs, h5, h6, h7⟩ := h len (Nat.lt_succ_self _)
    refine ⟨ys ++ [y], vs ++ cs, F ++ F', by simp [h1], by simp [h2, h5, Nat.add_mul], ?_, fun j v hj => ?_⟩
    · rw [List.flatMap_append]; refine h3.join ?_; simpa using h7
    · by_cases hlt : j < vs.length
      · rw [List.getElem?_append_left hlt] at hj; exact h4 j v hj
      · rw [List.getElem?_append_right (by omega)] at hj
        have hlt2 := (List.getElem?_eq_some_iff.1 hj).1
        have := h6 (j - vs.length) (by omega)
        rw [hj] at this
        rw [← this]
        congr 1
        simp only [Addr.add]
        have e1 : j = len * sz + (j - vs.length) := by omega
        by_cases z1 : len * sz = 0
        · by_cases z2 : j - vs.length = 0
          · have : j = 0 := by omega
            simp [z1, z2, this]
          · have e2 : j = j - vs.length := by omega
            simp only [z1, if_true, z2, if_false]
            rw [← e2]
            have : ¬ j = 0 := by omega
            simp [this]
        · by_cases z2 : j - vs.length = 0
          · have : ¬ j = 0 := by omega
            simp only [z1, if_false, z2, if_true, this]
            congr 1; omega
          · have : ¬ j = 0 := by omega
            simp only [z1, if_false, z2, this]
            congr 1; omega

theorem read_slice {α : Type} {row : α → List D} {sz : Nat} {T e : TypeId} {cs : List Value} {x : DataW H × List MemPlace} {fuel : Nat} (hT : P.underlying T = some (.slice e)) (hsz : P.cellsOf e = sz) (h0 : 0 < sz)
    (hrow : ∀ y, (row y).length = sz)
    (hel : ∀ n cs x, n < fuel → DataW.trod enc P W base sp held n e cs = some x → ∃ y F, ValsF W (row y) cs F) (h : DataW.trod enc P W base sp held fuel T cs = some x) :
    ∃ (ys : List α) (v : Value) (F : List Nat), cs = [v] ∧ CellF W (.sl ys.length (ys.flatMap row)) v F := by
  rcases DataW.trod_slice hT h with ⟨rfl, _⟩ | ⟨a, len, cap, elems, rest, n, hfu, rfl, _, hb, hl, hc, hlen, hget, _⟩
  · exact ⟨[], _, [], rfl, none, 0, rfl, Nat.le_refl _, by simp [maxLen], fun _ => rfl, .inl ⟨rfl, rfl⟩⟩
  · have each : ∀ i, i < len → ∃ (y : α) (F : List Nat) (cs : List Value), cs.length = sz ∧ (∀ j, j < sz → W.cell? ((a.add (i * sz)).add j) = cs[j]?) ∧ ValsF W (row y) cs F := fun i hi => by
      have hg := hget i hi
      rw [List.getElem?_eq_getElem (by omega), hsz] at hg
      obtain ⟨cs', hcs, htr⟩ := Option.bind_eq_some_iff.1 hg
      obtain ⟨_, hcl, hcell⟩ := World.cells?_some hcs
      obtain ⟨y, F, hy⟩ := hel _ _ _ (by omega) htr
      exact ⟨y, F, cs', hcl, hcell, hy⟩
    obtain ⟨ys, vs, F, h1, h2, h3, h4⟩ := gather len each
    by_cases hz : len = 0
    · subst hz
      have : ys = [] := List.eq_nil_of_length_eq_zero h1
      subst this
      exact ⟨[], _, [], rfl, some a, cap, rfl, by simp, hc, by simp, .inl ⟨rfl, rfl⟩⟩
    · have hpos : 0 < len * sz := Nat.mul_pos (Nat.pos_of_ne_zero hz) h0
      obtain ⟨v0, r, hvs, _⟩ := list_cons (l := vs) (n := len * sz - 1) (by omega)
      have hc0 := h4 0 v0 (by rw [hvs]; rfl)
      have hspot : a.spot = none := by
        have : a.add 0 = a := by simp [Addr.add]
        rw [this] at hc0
        unfold World.cell? at hc0
        split at hc0
        · split at hc0
          · cases hc0
          · rename_i hs; simpa using hs
        · cases hc0
      have ha : a = ⟨a.block, a.off, none⟩ := by cases a; simp at hspot; simp [hspot]
      refine ⟨ys, _, a.block :: F, rfl, some a, cap, by rw [h1], by omega, hc, by simp, .inr ⟨?_, a.block, a.off, F, by rw [← ha], h3.row fun j v hj => ?_, rfl⟩⟩
      · intro e
        have h3l : vs.length = 0 := by rw [h3.length, e]; rfl
        omega
      · have := h4 j v hj
        rw [ha, add_lit0] at this
        exact this
end
end Go.Vc

namespace Go.Vc
open Go Go.RowKit
section
variable {P : Program} {n : Nat} {d : Option Nat} {K : K0} {f : Regs} {L : Lst} {m : World}
def shrI (k : IntKind) (a b : Int) : Int := a.fdiv (2 ^ min b.toNat k.bits)
def xorI (k : IntKind) (a b : Int) : Int := k.wrap (BitVec.ofInt k.bits a ^^^ BitVec.ofInt k.bits b).toNat
def andI (k : IntKind) (a b : Int) : Int := k.wrap (BitVec.ofInt k.bits a &&& BitVec.ofInt k.bits b).toNat
theorem and255 (x : Int) : 0 ≤ andI .i64 x 255 ∧ andI .i64 x 255 ≤ 255 := by
  have h : (BitVec.ofInt 64 x &&& BitVec.ofInt 64 255).toNat ≤ 255 := by
    rw [BitVec.toNat_and]
    exact Nat.le_trans Nat.and_le_right (by decide)
  unfold andI
  have hb : IntKind.i64.bits = 64 := rfl
  rw [hb]
  rw [IntWalk.i64_in _ (by omega)]
  omega
end
def brow (b : Int) : List D := [.lit (.int .u8 b)]
/-- A cursor over the bytes of a draw. -/
def Cu (m : World) (bc : Nat) : Prop := ∃ (a : Option Addr) (cap : Nat) (bs : List Int) (i h : Int) (F : List Nat), Cells m bc 0 [.slice a bs.length cap, .int .i64 i, .int .i64 h] ∧ 0 ≤ i ∧ CellF m (.sl bs.length (bs.flatMap brow)) (.slice a bs.length cap) F ∧ bc ∉ F ∧ Own m [bc]
theorem Cu.grow {m m' : World} {bc : Nat} (g : Grow m m') (h : Cu m bc) : Cu m' bc := by
  obtain ⟨a, cap, bs, i, hh, F, h1, h2, h3, h4, h5⟩ := h
  exact ⟨a, cap, bs, i, hh, F, h1.grow g, h2, h3.grow g, h4, h5.grow g⟩
end Go.Vc
