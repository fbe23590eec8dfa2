/-
  The walk over the very world.
  Conditions: none.
-/
import Derived.Test.YtoegnikpokgbfaaGreatDoorETA
set_option linter.unusedVariables false
set_option linter.unusedSimpArgs false
set_option linter.unusedSectionVars false
namespace Go.Cx
open Go Go.RowKit Go.Dv Go.Cv
open Go.Vc (zeroC guardSlot vis vis_of_cell CellF RowF ValsF D inN okV callable wp_value wp_skipped tyS TS sizeTS elemS fieldOff fieldOff_spec add_lit0 run_v tyS_one run_loadVar_one run_loadVar_agg underlying_run wp_loop_nat callFunc_run run_alloc_box Plan dsts dstsOps Cells oneCell_eq Stay Sw lodO desc inX wpAnyB wpAnyB_first wpAny_of_B Closed dst_mem closed_start zerosOf placesS elemS_spec zerosOf_spec map2 arr1 arr2)
def cellsL : Value → List Value := fun v => v.cells.toList
def valsV (f : Rg) : Nat → List (Nat × Operand) → Option (List Value)
 | _, [] => some []
 | k, (i, x) :: r => if i = k then (match ev f x, valsV f (k + 1) r with | .c (.v v), some vs => some (v :: vs) | _, _ => none) else none
def Rd (w : World) (sz : Nat) (a : Option Addr) (n : Nat) (vs : List Value) : Prop :=
 vs.length = n * sz ∧ ((n = 0) ∨ ∃ b o, a = some ⟨b, o, none⟩ ∧ ∀ (i : Nat) v, vs[i]? = some v → w.cell? ⟨b, o + i, none⟩ = some v)
def argsW : List S → Option (List Value)
 | [] => some []
 | .c (.v x) :: r => match argsW r with | some vs => some (x :: vs) | none => none
 | .c (.fn g [] []) :: r => match argsW r with | some vs => some (.func (.func g) #[] #[] :: vs) | none => none
 | _ :: _ => none
def xCall (P : Program) (n : Nat) (d : Option Nat) (g : FuncId) (vs : List Value) (K : K1) : K1 := fun f w =>
 callable P g = true ∧ ∃ R : Value → World → Prop, Calls P g vs.toArray w (fun e w' => ∃ v, e = .returned v ∧ R v w') ∧ ∀ v w', R v w' → Stp K (put n f d (.c (.v v))) w'
def xStoreP (n : Nat) (d : Option Nat) (b off : Nat) (vs : List Value) (K : K1) : K1 := fun f w =>
 ∃ cur t fz, w.heap[b]? = some (.cells cur t fz) ∧ Lh cur.size fz ∧ off + vs.length ≤ cur.size ∧ (∀ v ∈ vs, v.oneCell' = true) ∧
  ∃ w', w.setRow b (cur.toList.take off ++ vs ++ cur.toList.drop (off + vs.length)).toArray = w' ∧ Stp K (put n f d (.c .dead)) w'
def xBuildS (P : Program) (n : Nat) (d : Option Nat) (e sz len : Nat) (vs : List Value) (K : K1) : K1 := fun f w =>
 0 < sz ∧ len * sz ≤ 16777216 ∧ (zerosOf P e sz len).isSome = true ∧ vs.length = len ∧ (∀ v ∈ vs, v.cells.size = sz) ∧
  ∀ b w', b = w.heap.size → w' = w.alloc (.cells (vs.flatMap cellsL).toArray e) → K (put n f d (.c (.v (.slice (some ⟨b, 0, none⟩) len len)))) w'
def xAppend (P : Program) (n : Nat) (d : Option Nat) (T U : TypeId) (a : Option Addr) (ln cap : Nat) (a2 : Option Addr) (q cq : Nat) (K : K1) : K1 := fun f w =>
 match elemS P T, P.underlying U with
 | some (e, sz, bytes), some (.slice _) => 0 < sz ∧ (zerosOf P e sz 1).isSome = true ∧ ∃ olds news : List Value, Rd w sz a ln olds ∧ Rd w sz a2 q news ∧ (∀ v ∈ news, v.oneCell' = true) ∧
  (ln + q ≤ cap → ∃ g cur t fz, a = some ⟨g, 0, none⟩ ∧ w.heap[g]? = some (.cells cur t fz) ∧ Lh cur.size fz ∧ ln * sz + news.length ≤ cur.size ∧
    ∃ w', w.setRow g (cur.toList.take (ln * sz) ++ news ++ cur.toList.drop (ln * sz + news.length)).toArray = w' ∧ Stp K (put n f d (.c (.v (.slice (some ⟨g, 0, none⟩) (ln + q) cap)))) w') ∧
  (cap < ln + q → room (ln + q) bytes ∧ ∀ cap' junk b w', b = w.heap.size → ln + q ≤ cap' → cap' ≤ maxLen → junk.length = (cap' - (ln + q)) * sz → w' = w.drew.alloc (.cells (olds ++ news ++ junk).toArray e) →
    Stp K (put n f d (.c (.v (.slice (some ⟨b, 0, none⟩) (ln + q) cap')))) w')
 | _, _ => False
def xClear (P : Program) (n : Nat) (d : Option Nat) (T : TypeId) (a : Option Addr) (ln : Nat) (K : K1) : K1 := fun f w =>
 match elemS P T with
 | some (e, sz, _) => (ln = 0 → Stp K (put n f d (.c (.v (.tuple #[])))) w) ∧
  (0 < ln → (∃ z, zerosOf P e sz 1 = some z ∧ ∀ v ∈ z, v.oneCell' = true) ∧ ∃ b off cur t fz, a = some ⟨b, off, none⟩ ∧ w.heap[b]? = some (.cells cur t fz) ∧ Lh cur.size fz ∧ off + ln * sz ≤ cur.size ∧
    ∀ (zs : List Value) w', zs.length = ln * sz → w.setRow b (cur.toList.take off ++ zs ++ cur.toList.drop (off + zs.length)).toArray = w' → Stp K (put n f d (.c (.v (.tuple #[])))) w')
 | none => False
def xOp (P : Program) (n : Nat) (o : Oper) (K : K1) : K1 := fun f w =>
 match o.op with
 | .call c => (match c.callee with
  | .value g => (match ev f g, argsW (c.args.toList.map (ev f)) with
   | .c (.fn g [] []), some vs => xCall P n o.dst g vs K f w
   | _, _ => False)
  | .builtin .append => (match c.args.toList.map (ev f), c.argTypes.toList with
   | [.c (.v (.slice a ln cap)), .c (.v (.slice a2 q cq))], [T, U] => xAppend P n o.dst T U a ln cap a2 q cq K f w
   | _, _ => False)
  | .builtin .clear => (match c.args.toList.map (ev f), c.argTypes.toList with
   | [.c (.v (.slice a ln _))], [T] => xClear P n o.dst T a ln K f w
   | _, _ => False)
  | _ => cOp P n o K f w)
 | .store t x y => (match ev f x, ev f y with
  | .c (.v (.pointer (some ⟨b, off, none⟩))), .c (.v (.agg xs)) => tyS P t = .agg xs.size ∧ xStoreP n o.dst b off xs.toList K f w
  | _, _ => cOp P n o K f w)
 | .buildSlice T len ps => (match elemS P T, valsV f 0 ps.toList with
  | some (e, sz, _), some vs => xBuildS P n o.dst e sz len vs K f w
  | _, _ => False)
 | .slice T x lo hi mx => (match ev f x, optV (mx.map (ev f)), optV (lo.map (ev f)), optV (hi.map (ev f)), elemS P T with
  | .c (.v (.slice ad ln cap)), some none, some l, some h, some (_, sz, _) => (match loB l, hiB ln h with
   | some l, some h => 0 ≤ l ∧ l ≤ h ∧ h ≤ cap ∧ K (put n f o.dst (.c (.v (sliced ad l.toNat h.toNat cap sz)))) w
   | _, _ => False)
  | .c (.v (.slice ad ln cap)), some (some m), some l, some (some h), some (_, sz, _) => (match loB l, hiB ln (some h), loB (some m) with
   | some l, some h, some m => 0 ≤ l ∧ l ≤ h ∧ h ≤ m ∧ m ≤ cap ∧ K (put n f o.dst (.c (.v (sliced ad l.toNat h.toNat m.toNat sz)))) w
   | _, _, _ => False)
  | _, _, _, _, _ => False)
 | .build t ps => ps.isEmpty = true ∧ (match zeroD P t, placesS P t with | some z, some _ => K (put n f o.dst (.c (.v (.agg z.toArray)))) w | _, _ => False)
 | _ => cOp P n o K f w
section
variable {P : Program} {n : Nat} {f : Rg} {a : Act} {w : World} {K : K1} {Ka : Act → World → Prop} {Q : Exit → Act → World → Prop} {ops : Array Oper}
def isCallO (o : Oper) : Bool := match o.op with | .call c => (match c.callee with | .value _ => true | _ => false) | _ => false
def isStoreO (o : Oper) : Bool := match o.op with | .store .. => true | _ => false
theorem cOp_to {T : World → Prop} {o : Oper} (hc : isCallO o = false) (hr : T w) (ha : ∀ cs t, T (w.alloc (.cells cs t))) (hst : isStoreO o = true → (∀ b cs, T (w.setRow b cs)) ∧ ∀ ad v, T (w.setCell ad v))
 (h : cOp P n o K f w) : cOp P n o (fun f' w' => T w' ∧ K f' w') f w := by
 unfold cOp at h ⊢
 unfold isCallO at hc
 unfold isStoreO at hst
 split at h <;> rename_i ho <;> simp only [ho] at hc hst ⊢
 ·exact ⟨hr, h⟩
 ·exact ⟨hr, h⟩
 ·split at h
  ·rename_i e1 e2
   obtain ⟨v, hv, h0, hk⟩ := h
   exact ⟨v, hv, h0, hr, hk⟩
  ·exact h.elim
 ·split at h
  ·rename_i e1
   obtain ⟨v, hv, h0, hk⟩ := h
   exact ⟨v, hv, h0, hr, hk⟩
  ·exact h.elim
 ·split at h
  ·rename_i e1
   obtain ⟨v, hv, h0, hk⟩ := h
   exact ⟨v, hv, h0, hr, hk⟩
  ·exact h.elim
 ·split at h
  ·rename_i e1
   obtain ⟨v, hv, hk⟩ := h
   exact ⟨v, hv, hr, hk⟩
  ·exact h.elim
 ·split at h
  ·rename_i e1 e2 e3
   exact ⟨h.1, h.2.1, hr, h.2.2⟩
  ·exact h.elim
 ·split at h
  ·rename_i e1 e2
   exact ⟨hr, h⟩
  ·exact h.elim
 ·split at h
  ·rename_i e1
   exact ⟨hr, h⟩
  ·exact h.elim
 ·split at h
  ·rename_i e1
   split at h
   ·rename_i e2
    obtain ⟨vs, h1, h2, hk⟩ := h
    exact ⟨vs, h1, h2, hr, hk⟩
   ·rename_i e2
    obtain ⟨h1, v, h2, hk⟩ := h
    exact ⟨h1, v, h2, hr, hk⟩
  ·exact h.elim
 ·split at h
  ·rename_i e1 e2
   obtain ⟨h1, h2, h3, w', h4, hk⟩ := h
   exact ⟨h1, h2, h3, w', h4, by rw [← h4]; exact (hst trivial).1 _ _, hk⟩
  ·rename_i h0 e1 e2
   obtain ⟨h1, h2, h3, h5, w', h4, hk⟩ := h
   exact ⟨h1, h2, h3, h5, w', h4, by rw [← h4]; exact (hst trivial).2 _ _, hk⟩
  ·exact h.elim
 ·split at h
  ·rename_i e1
   exact fun b w' hb hw => ⟨by rw [hw]; exact ha _ _, h b w' hb hw⟩
  ·exact h.elim
 ·split at h
  ·rename_i e1
   exact ⟨fun ht => ⟨hr, h.1 ht⟩, fun ht => ⟨hr, h.2 ht⟩⟩
  ·exact h.elim
 ·split at h
  ·rename_i e1
   exact fun b w' hb hw => ⟨by rw [hw]; exact ha _ _, h b w' hb hw⟩
  ·exact h.elim
 ·rename_i cc
  split at h
  ·rename_i g hg
   simp [hg] at hc
  ·rename_i hg
   split at h
   ·rename_i e1 e2
    exact ⟨h.1, hr, h.2⟩
   ·rename_i e1 e2
    exact ⟨h.1, hr, h.2⟩
   ·exact h.elim
  ·exact h.elim
 ·exact h.elim
theorem fill_all {sz : Nat} : ∀ (vs : List Value) (k : Nat) (base : Array Value) (done rest : List Value), (∀ v ∈ vs, v.cells.size = sz) → base.toList = done ++ rest → done.length = k * sz → rest.length = vs.length * sz →
 ∃ arr, Instr.fill (fun i => some (i * sz, sz)) base ((vs.zipIdx k).map fun p => (p.2, p.1)) = some arr ∧ arr.toList = done ++ vs.flatMap cellsL
 | [], k, base, done, rest, _, hb, _, hr => by
  have : rest = [] := List.eq_nil_of_length_eq_zero (by simpa using hr)
  subst this
  exact ⟨base, rfl, by simpa using hb⟩
 | v :: vs, k, base, done, rest, hv, hb, hd, hr => by
  have hvs := hv v (by simp)
  have hl : base.size = done.length + rest.length := by simpa using congrArg List.length hb
  have hr' : rest.length = vs.length * sz + sz := by rw [hr, List.length_cons, Nat.add_mul, Nat.one_mul]
  have hfold : (v.cells.zipIdx.foldl (fun cs (p : Value × Nat) => cs.setIfInBounds (k * sz + p.2) p.1) base).toList = base.toList.take (k * sz) ++ v.cells.toList ++ base.toList.drop (k * sz + v.cells.toList.length) := by
   have := Go.Vc.fold_splice v.cells.toList 0 base (k * sz) (by simp; omega)
   simp only [Nat.add_zero] at this
   rw [← this]
   rw [← Array.foldl_toList, Array.toList_zipIdx]
  obtain ⟨arr, h1, h2⟩ := fill_all vs (k + 1) (v.cells.zipIdx.foldl (fun cs (p : Value × Nat) => cs.setIfInBounds (k * sz + p.2) p.1) base) (done ++ cellsL v) (rest.drop sz) (fun u hu => hv u (by simp [hu])) (by
   rw [hfold, hb, ← hd, List.take_left, List.append_assoc, ← List.drop_drop, List.drop_left, Array.length_toList, hvs, List.append_assoc]; rfl) (by
   have : (cellsL v).length = sz := by simpa [cellsL] using hvs
   rw [List.length_append, hd, this, Nat.add_mul, Nat.one_mul]) (by rw [List.length_drop, hr', Nat.add_sub_cancel])
  refine ⟨arr, ?_, by rw [h2]; simp⟩
  simp only [List.zipIdx_cons, List.map_cons, Instr.fill]
  rw [if_neg (by simp; omega)]
  exact h1
theorem valsV_spec : ∀ (ps : List (Nat × Operand)) (k : Nat) {vs : List Value}, CSim n f a → valsV f k ps = some vs → (ps.map fun p => (p.1, a.eval p.2)) = (vs.zipIdx k).map fun p => (p.2, p.1)
 | [], k, vs, _, h => by simp [valsV] at h; subst h; rfl
 | (i, x) :: r, k, vs, hs, h => by
  have hx := ev_rv hs x
  simp only [valsV] at h
  split at h
  case isFalse => cases h
  rename_i hi
  split at h
  case h_2 => cases h
  rename_i v vs' e1 e2
  injection h with h
  subst h hi
  rw [e1] at hx
  have hx : a.eval x = v := hx
  simp [hx, valsV_spec r (i + 1) hs e2]
theorem rd_first {sz n c : Nat} {x : Option Addr} {vs : List Value} (h : Rd w sz x n vs) : (Builtin.lenOf (.slice x n c)).run P w = .ok n w ∧ (Builtin.firstCells sz n (.slice x n c)).run P w = .ok vs.toArray w ∧ (Builtin.firstCells sz n (.slice x n c)).run P w.drew = .ok vs.toArray w.drew := by
 obtain ⟨hl, h⟩ := h
 refine ⟨by simp [Builtin.lenOf], ?_⟩
 rcases h with rfl | ⟨b, o, rfl, hc⟩
 ·have : vs = [] := List.eq_nil_of_length_eq_zero (by simpa using hl)
  subst this
  cases x with
  | none => simp [Builtin.firstCells]
  | some ad => exact ⟨run_firstCells_some w sz 0 ad 0 c [] (by simp) (by simp), run_firstCells_some w.drew sz 0 ad 0 c [] (by simp) (by simp)⟩
 ·exact ⟨run_firstCells_some w sz n ⟨b, o, none⟩ n c vs hl (fun j v hj => by rw [add_lit0]; exact hc j v hj), run_firstCells_some w.drew sz n ⟨b, o, none⟩ n c vs hl (fun j v hj => by rw [add_lit0, World.cell?_drew]; exact hc j v hj)⟩
theorem run_append_room_ty (t u ty e ty2 : TypeId) (d : TypeDesc) (i : TypeInfo) (ht : P.underlying t = some (.slice e)) (hu : P.underlying u = some d) (hd : ∀ k, d ≠ .int k) (hi : P.info? e = some i)
 (g sLen sCap : Nat) (cur : Array Value) (fz : Nat × Nat) (hg : w.heap[g]? = some (.cells cur ty2 fz)) (hfz : Lh cur.size fz)
 (tv : Value) (q : Nat) (news : List Value) (hq : (Builtin.lenOf tv).run P w = .ok q w) (hf : (Builtin.firstCells i.size q tv).run P w = .ok news.toArray w) (h1 : ∀ u ∈ news, u.oneCell' = true)
 (hroom : sLen + q ≤ sCap) (hfit : sLen * i.size + news.length ≤ cur.size) :
 (Builtin.append_ #[t, u] ty #[.slice (some ⟨g, 0, none⟩) sLen sCap, tv]).run P w =
  .ok (.slice (some ⟨g, 0, none⟩) (sLen + q) sCap) (w.setRow g (cur.toList.take (sLen * i.size) ++ news ++ cur.toList.drop (sLen * i.size + news.length)).toArray) := by
 have hst := run_storeCells_lh P g (sLen * i.size) ty2 fz news 0 cur w hg hfz (by simpa using hfit) h1
 simp only [Nat.add_zero] at hst
 have hd' : (match d with | .int _ => true | _ => false) = false := by cases d <;> first | rfl | exact absurd rfl (hd _)
 simp [Builtin.append_, run_underlying ht, run_underlying hu, sizeOf, typeInfo, hi, hq, hroom, hf, Addr.add_lit, hst]
def exX (o : Oper) : Bool :=
 match o.op with
 | .store .. => true
 | .call c => (match c.callee with | .builtin .append => true | .builtin .clear => true | .value _ => true | _ => false)
 | _ => false
theorem argsW_spec : ∀ {xs : List Operand} {vs : List Value}, CSim n f a → argsW (xs.map (ev f)) = some vs → xs.map a.eval = vs
 | [], vs, _, h => by simp [argsW] at h; simp [h]
 | x :: r, vs, hs, h => by
  have hx := ev_rv hs x
  simp only [List.map_cons] at h ⊢
  unfold argsW at h
  split at h
  ·rename_i e; simp at e
  ·rename_i z r' e
   injection e with e1 e2
   subst e2
   rw [e1] at hx
   split at h
   ·rename_i vs' hr
    injection h with h
    subst h
    rw [argsW_spec hs hr]; exact congrArg (· :: vs') hx
   ·cases h
  ·rename_i z r' e
   injection e with e1 e2
   subst e2
   rw [e1] at hx
   split at h
   ·rename_i vs' hr
    injection h with h
    subst h
    rw [argsW_spec hs hr]; exact congrArg (· :: vs') hx
   ·cases h
  ·cases h
theorem optV_rv (hs : CSim n f a) {y : Option Operand} {b : Option Value} (h : optV (y.map (ev f)) = some b) : y.map a.eval = b := by
 cases y with
 | none => simp [optV] at h; subst h; rfl
 | some y =>
  have hr := ev_rv hs y
  simp only [Option.map_some] at h ⊢
  unfold optV at h
  split at h
  ·rename_i e; cases e
  ·rename_i b e
   injection e with e; rw [e] at hr
   injection h with h; subst h
   have hr : a.eval y = _ := hr
   rw [hr]
  ·cases h
theorem cut_run {T e : TypeId} {sz by' ln cap : Nat} {ad : Option Addr} {l h : Option Value} {lo hi : Int} (hel : elemS P T = some (e, sz, by')) (hlb : loB l = some lo) (hhb : hiB ln h = some hi) (h0 : 0 ≤ lo) (h1 : lo ≤ hi) (h2 : hi ≤ cap) (w : World) :
 (Instr.sliceAt T (.slice ad ln cap) l h none).run P w = .ok (sliced ad lo.toNat hi.toNat cap sz) w := by
 obtain ⟨hu, inf, hinf, hsz, _⟩ := Go.Vc.elemS_spec hel
 have hel2 : P.elem T = e := by simp [Program.elem, hu]
 have ht : P.underlying T = some (.slice (P.elem T)) := by rw [hel2]; exact hu
 have hsz' : (sizeOf (P.elem T)).run P w = .ok sz w := by rw [hel2]; simp [sizeOf, typeInfo, hinf, hsz]
 rw [run_sliceAt_slice w T _ _ _ _ ht]
 cases l with
 | none =>
  simp only [loB, Option.some.injEq] at hlb; subst hlb
  cases h with
  | none =>
   simp only [hiB, Option.some.injEq] at hhb; subst hhb
   rw [run_slice_all w T ad ln cap ht, hsz']; rfl
  | some b =>
   cases b <;> simp [hiB] at hhb
   subst hhb
   rw [run_slice_h w T ad ln cap ht _ _ (by omega) (by omega), hsz']; rfl
 | some b =>
  cases b <;> simp [loB] at hlb
  subst hlb
  cases h with
  | none =>
   simp only [hiB, Option.some.injEq] at hhb; subst hhb
   rw [run_slice_l w T ad ln cap ht _ _ (by omega) (by omega), hsz']; rfl
  | some c =>
   cases c <;> simp [hiB] at hhb
   subst hhb
   rw [run_slice_lh w T ad ln cap ht _ _ _ _ (by omega) (by omega) (by omega), hsz']; rfl
theorem cut_run_m {T e : TypeId} {sz by' ln cap : Nat} {ad : Option Addr} {l : Option Value} {h m : Value} {lo hi mx : Int} (hel : elemS P T = some (e, sz, by')) (hlb : loB l = some lo) (hhb : hiB ln (some h) = some hi) (hmb : loB (some m) = some mx) (h0 : 0 ≤ lo) (h1 : lo ≤ hi) (h2 : hi ≤ mx) (h3 : mx ≤ cap) (w : World) :
 (Instr.sliceAt T (.slice ad ln cap) l (some h) (some m)).run P w = .ok (sliced ad lo.toNat hi.toNat mx.toNat sz) w := by
 obtain ⟨hu, inf, hinf, hsz, _⟩ := Go.Vc.elemS_spec hel
 have hel2 : P.elem T = e := by simp [Program.elem, hu]
 have ht : P.underlying T = some (.slice (P.elem T)) := by rw [hel2]; exact hu
 have hsz' : (sizeOf (P.elem T)).run P w = .ok sz w := by rw [hel2]; simp [sizeOf, typeInfo, hinf, hsz]
 rw [run_sliceAt_slice w T _ _ _ _ ht]
 cases h <;> simp [hiB] at hhb
 cases m <;> simp [loB] at hmb
 subst hhb hmb
 cases l with
 | none =>
  simp only [loB, Option.some.injEq] at hlb; subst hlb
  rw [run_slice_hm w T ad ln cap ht _ _ _ _ (by omega) (by omega) (by omega), hsz']; rfl
 | some b =>
  cases b <;> simp [loB] at hlb
  subst hlb
  rw [run_slice_lhm w T ad ln cap ht _ _ _ _ _ _ (by omega) (by omega) (by omega) (by omega), hsz']; rfl
theorem zeroCells_all {z : Array Value} {p : Value → Prop} (h : ∀ v ∈ z.toList, p v) (n : Nat) : ∀ v ∈ (Builtin.zeroCells z n).toList, p v := by
 intro v hv
 simp only [Builtin.zeroCells, Array.toList_map, List.mem_map] at hv
 obtain ⟨i, hi, rfl⟩ := hv
 have hz : 0 < z.size := by
  rcases Nat.eq_zero_or_pos z.size with e | e
  ·rw [e, Nat.mul_zero] at hi; simp at hi
  ·exact e
 have hlt : i % z.size < z.size := Nat.mod_lt _ hz
 rw [getElem!_pos z _ hlt]
 exact h _ (Array.getElem_mem_toList hlt)
theorem xOp_sound {o : Oper} (hs : CSim n f a) (h : xOp P n o K f w) (hK : ∀ f' a' w', CSim n f' a' → (∀ j, j ∉ o.dst.toList → a'.tmps.getD j undef = a.tmps.getD j undef) → (exX o = true ∨ Stay w w') → K f' w' → Ka a' w') : o.wp P a w Ka Q := by
 have via : isCallO o = false → (isStoreO o = true → exX o = true) → cOp P n o K f w → o.wp P a w Ka Q := fun hc hst h =>
  cOp_keep hs (cOp_to (T := fun w' => exX o = true ∨ Stay w w') hc (.inr (Stay.refl w)) (fun cs t => .inr (Stay.alloc w _)) (fun h1 => ⟨fun b cs => .inl (hst h1), fun ad v => .inl (hst h1)⟩) h) fun f' a' w' h1 h2 h3 => hK f' a' w' h1 h2 h3.1 h3.2
 unfold xOp at h
 split at h
 ·rename_i cc ho
  have hex : ∀ {v w'}, (Builtin.append_ cc.argTypes o.type (cc.args.map a.eval)).run P w = .ok v w' → cc.callee = .builtin .append → (execOp a.eval o).run P w = .ok (.value v) w' := by
   intro v w' hr hcl
   simp [execOp, ho, resolve, hcl, invoke, builtin, hr]
  split at h
  ·rename_i g hg
   split at h
   ·rename_i gid vs e1 e2
    obtain ⟨hcl, R, hR, hk⟩ := h
    have hge : a.eval g = .func (.func gid) #[] #[] := by have := ev_rv hs g; rw [e1] at this; exact this
    have hargs := argsW_spec hs e2
    have hrun : (execOp a.eval o).run P w = .ok (.enter gid vs.toArray) w := by
     have he : cc.args.map a.eval = vs.toArray := by rw [← hargs, ← Array.toList_map]
     simp [execOp, ho, resolve, hg, hge, Deferred.ofValue, invoke, callFunc_run hcl, he]
    unfold Oper.wp
    rw [hrun, Oper.upon_enter]
    refine hR.mono ?_
    rintro e w' ⟨v, rfl, hv⟩
    exact hK _ _ _ (hs.put o.dst (x := .c (.v v)) rfl) (kp_put _ _ _) (.inl (by simp [exX, ho, hg])) (hk v w' hv)
   ·exact h.elim
  ·rename_i hg
   split at h
   ·rename_i x1 ln cap x2 q cq T U e1 e2
    have hxx : exX o = true := by simp [exX, ho, hg]
    obtain ⟨y1, y2, hy, hv1, hv2⟩ := Go.Vc.map2 e1
    have hr1 := ev_rv hs y1
    have hr2 := ev_rv hs y2
    rw [hv1] at hr1
    rw [hv2] at hr2
    have hr1 : a.eval y1 = _ := hr1
    have hr2 : a.eval y2 = _ := hr2
    have hat : cc.argTypes = #[T, U] := Go.Vc.arr2 e2
    have hag : cc.args.map a.eval = #[.slice x1 ln cap, .slice x2 q cq] := by
     rw [Go.Vc.arr2 hy]; simp [hr1, hr2]
    rw [hat, hag] at hex
    unfold xAppend at h
    split at h
    case h_2 => exact h.elim
    rename_i e sz bytes eu hel hU
    obtain ⟨hsz0, hz, olds, news, ho1, hn1, hone, hroom, hgrow⟩ := h
    obtain ⟨hu, i, hi, hsz, hbs⟩ := elemS_spec hel
    subst hsz hbs
    obtain ⟨q1, q2, q3⟩ := rd_first (P := P) (c := cq) hn1
    by_cases hle : ln + q ≤ cap
    ·obtain ⟨g, cur, t, fz, rfl, hh, hlh, hfit, w', rfl, hk⟩ := hroom hle
     have hrun := run_append_room_ty (P := P) (w := w) T U o.type e t (.slice eu) i hu hU (fun k e => by cases e) hi g ln cap cur fz hh hlh (.slice x2 q cq) q news q1 q2 hone hle hfit
     exact wp_value (hex hrun hg) (hK _ _ _ (hs.put o.dst (x := .c (.v _)) rfl) (kp_put _ _ _) (.inl hxx) hk)
    ·obtain ⟨hrm, hk⟩ := hgrow (by omega)
     obtain ⟨hml, hby⟩ := hrm
     have hml' := hml
     simp only [maxLen] at hml'
     obtain ⟨zs, hzs⟩ := Option.isSome_iff_exists.1 hz
     obtain ⟨zv, hzv, hzl, _⟩ := zerosOf_spec hzs w
     have hzi : i.zero = some zv := by
      simp only [zeroValue, typeInfo, Sem.run_bind, run_program, Result.andThen_ok, hi, Sem.run_pure] at hzv
      cases hz : i.zero with
      | none => simp [hz] at hzv
      | some q => simp only [hz, Sem.run_pure, Result.ok.injEq, and_true] at hzv; rw [hzv]
     obtain ⟨_, _, o3⟩ := rd_first (P := P) (c := cap) ho1
     have hr := run_append_grow_u (P := P) w T U o.type e (.slice eu) i zv hu hU (fun k e => by cases e) hi hzi x1 ln cap olds o3 (.slice x2 q cq) q news q1 q3 (by omega) (by omega) (growslice_fits (by omega) hby)
     have hge := grownCap_ge w (ln + q) cap e
     have hcm := grownCap_le_maxLen w (ln + q) cap e hml
     have ha : olds.toArray ++ news.toArray ++ Builtin.zeroCells zv.cells (grownCap w (ln + q) cap e - (ln + q)) = (olds ++ news ++ (Builtin.zeroCells zv.cells (grownCap w (ln + q) cap e - (ln + q))).toList).toArray := by simp
     rw [ha] at hr
     exact wp_value (hex hr hg) (hK _ _ _ (hs.put o.dst (x := .c (.v _)) rfl) (kp_put _ _ _) (.inl hxx)
      (hk _ (Builtin.zeroCells zv.cells (grownCap w (ln + q) cap e - (ln + q))).toList w.heap.size _ rfl hge hcm (by rw [Array.length_toList, Go.Vc.zeroCells_len, hzl]) rfl))
   ·exact h.elim
  ·rename_i hg
   have hxx : exX o = true := by simp [exX, ho, hg]
   split at h
   ·rename_i a1 ln cap T e1 e2
    obtain ⟨x, hx', hev⟩ := Go.Vc.map1 e1
    have ha := Go.Vc.arr1 hx'
    have hat := Go.Vc.arr1 e2
    have hr := ev_rv hs x
    rw [hev] at hr
    have hr : a.eval x = _ := hr
    have hag : cc.args.map a.eval = #[.slice a1 ln cap] := by rw [ha]; simp [hr]
    have hex2 : ∀ {v w'}, (Builtin.clear_ #[T] o.type #[.slice a1 ln cap]).run P w = .ok v w' → (execOp a.eval o).run P w = .ok (.value v) w' := by
     intro v w' hr
     simp [execOp, ho, resolve, hg, invoke, builtin, hat, hag, hr]
    unfold xClear at h
    split at h
    case h_2 => exact h.elim
    rename_i e sz by' hel
    obtain ⟨hu, i, hi, hsz, _⟩ := elemS_spec hel
    rcases Nat.eq_zero_or_pos ln with h0 | h0
    ·refine wp_value (v := .tuple #[]) (w' := w) (hex2 ?_) (hK _ _ _ (hs.put o.dst (x := .c (.v _)) rfl) (kp_put _ _ _) (.inl hxx) (h.1 h0))
     subst h0
     cases a1 <;> simp [Builtin.clear_, run_underlying hu]
    ·obtain ⟨⟨z, hz, hz1⟩, b, off, cur, t, fz, rfl, hh, hlh, hfit, hk⟩ := h.2 h0
     obtain ⟨zv, hzv, hzl, hzs⟩ := zerosOf_spec hz w
     have hz1' : ∀ v ∈ zv.cells.toList, v.oneCell' = true := by
      have e : z = zv.cells.toList := by rw [hzs]; simp [List.replicate]
      rw [← e]; exact hz1
     have hlen : (Builtin.zeroCells zv.cells ln).toList.length = ln * sz := by rw [Array.length_toList, Go.Vc.zeroCells_len, hzl]
     have hst := run_storeCells_lh P b off t fz (Builtin.zeroCells zv.cells ln).toList 0 cur w hh hlh (by rw [hlen]; omega) (zeroCells_all hz1' ln)
     simp only [Nat.add_zero] at hst
     refine wp_value (v := .tuple #[]) (hex2 ?_) (hK _ _ _ (hs.put o.dst (x := .c (.v _)) rfl) (kp_put _ _ _) (.inl hxx) (hk _ _ hlen rfl))
     obtain ⟨m, rfl⟩ : ∃ m, ln = m + 1 := ⟨ln - 1, by omega⟩
     simp [Builtin.clear_, run_underlying hu, hzv, hst]
   ·exact h.elim
  ·rename_i h1 h2 h3
   refine via (by cases hcc : cc.callee <;> simp [isCallO, ho, hcc] <;> exact (h1 _ hcc).elim) (fun hst => by simp [isStoreO, ho] at hst) h
 ·rename_i t x y ho
  have hxx : exX o = true := by simp [exX, ho]
  have hx := ev_rv hs x
  have hy := ev_rv hs y
  split at h
  ·rename_i b off xs e1 e2
   rw [e1] at hx; rw [e2] at hy
   have hx : a.eval x = _ := hx
   have hy : a.eval y = .agg xs := hy
   obtain ⟨ht, cur, tt, fz, hh, hlh, hlen, hone, _, rfl, hk⟩ := h
   have hst := run_storeCells_lh P b off tt fz xs.toList 0 cur w hh hlh (by simpa using hlen) hone
   simp only [Nat.add_zero] at hst
   exact wp_skipped (Go.Vc.store_run (w' := _) ho hx (by rw [hy, ht]; simp [Value.cells, Go.Vc.sizeTS]) (by rw [ht]; simp) (by rw [hy]; simpa [Value.cells] using hst)) (hK _ _ _ (hs.put o.dst (x := .c .dead) trivial) (kp_put _ _ _) (.inl hxx) hk)
  ·exact via (by simp [isCallO, ho]) (fun _ => hxx) h
 ·rename_i T len ps ho
  split at h
  case h_2 => exact h.elim
  rename_i e sz by' vs hel hvs
  obtain ⟨hsz0, hlim, hz, hvl, hvc, hk⟩ := h
  obtain ⟨hu, i, hi, hsz, _⟩ := elemS_spec hel
  obtain ⟨zs, hzs⟩ := Option.isSome_iff_exists.1 hz
  obtain ⟨zv, hzv, hzl, hzs'⟩ := zerosOf_spec hzs w
  have hsr : (sizeOf e).run P w = .ok sz w := by simp [sizeOf, typeInfo, hi, hsz]
  obtain ⟨arr, h1, h2⟩ := fill_all (sz := sz) vs 0 ((Array.range (len * sz)).map (zv.cells[· % zv.cells.size]!)) [] ((Array.range (len * sz)).map (zv.cells[· % zv.cells.size]!)).toList hvc rfl (by simp) (by simp [hvl])
  have hps := valsV_spec ps.toList 0 hs hvs
  have hrun : (execOp a.eval o).run P w = .ok (.value (.slice (some ⟨w.heap.size, 0, none⟩) len len)) (w.alloc (.cells arr e)) := by
   have hpt : (ps.map fun (x : Nat × Operand) => (x.1, a.eval x.2)).toList = (vs.zipIdx 0).map fun p => (p.2, p.1) := by rw [← hps]; simp
   have hnl : ¬ (len * sz > 16777216) := by omega
   have h224 : (2 : Nat) ^ 24 = 16777216 := by decide
   simp only [execOp, ho, Instr.buildSlice, Sem.run_bind, underlying_run hu, Result.andThen_ok, hsr, h224, if_neg hnl, hpt]
   by_cases h0 : len * sz = 0
   ·have hl0 : len = 0 := by
     rcases Nat.mul_eq_zero.1 h0 with q | q <;> omega
    subst hl0
    have hb : (Array.range (0 * sz)).map (zv.cells[· % zv.cells.size]!) = #[] := by simp
    have hb' : (Array.range 0).map ((#[] : Array Value)[· % (#[] : Array Value).size]!) = #[] := by simp
    rw [hb] at h1
    simp only [h0, if_true, Sem.run_pure, Result.andThen_ok, hb', h1, newRow, Sem.run_bind, run_newObj, World.alloc_eq]
   ·simp only [h0, if_false, Sem.run_bind, hzv, Result.andThen_ok, Sem.run_pure, h1, newRow, run_newObj, World.alloc_eq]
  have he : arr = (vs.flatMap cellsL).toArray := by rw [← h2.trans (List.nil_append _)]
  rw [he] at hrun
  exact wp_value hrun (hK _ _ _ (hs.put o.dst (x := .c (.v _)) rfl) (kp_put _ _ _) (.inr (Stay.alloc w _)) (hk _ _ rfl rfl))
 ·rename_i T x lo hi mx ho
  have hx := ev_rv hs x
  split at h
  ·rename_i ad ln cap l hh e sz by' e1 e0 e2 e3 e4
   split at h
   case h_2 => exact h.elim
   rename_i lo' hi' hlb hhb
   obtain ⟨h0, h1, h2, hk⟩ := h
   rw [e1] at hx
   have hx : a.eval x = _ := hx
   have q0 := optV_rv hs e0
   have q1 := optV_rv hs e2
   have q2 := optV_rv hs e3
   exact wp_value (v := sliced ad lo'.toNat hi'.toNat cap sz) (by simp [execOp, ho, hx, q0, q1, q2, cut_run e4 hlb hhb h0 h1 h2 w]) (hK _ _ _ (hs.put o.dst (x := .c (.v _)) rfl) (kp_put _ _ _) (.inr (Stay.refl w)) hk)
  ·rename_i ad ln cap m l hh e sz by' e1 e0 e2 e3 e4
   split at h
   case h_2 => exact h.elim
   rename_i lo' hi' m' hlb hhb hmb
   obtain ⟨h0, h1, h2, h3, hk⟩ := h
   rw [e1] at hx
   have hx : a.eval x = _ := hx
   have q0 := optV_rv hs e0
   have q1 := optV_rv hs e2
   have q2 := optV_rv hs e3
   exact wp_value (v := sliced ad lo'.toNat hi'.toNat m'.toNat sz) (by simp [execOp, ho, hx, q0, q1, q2, cut_run_m e4 hlb hhb hmb h0 h1 h2 h3 w]) (hK _ _ _ (hs.put o.dst (x := .c (.v _)) rfl) (kp_put _ _ _) (.inr (Stay.refl w)) hk)
  ·exact h.elim
 ·rename_i t ps ho
  obtain ⟨hp, h⟩ := h
  split at h
  case h_2 => exact h.elim
  rename_i z pl hz hpl
  obtain ⟨hz, hzok⟩ := zeroD_spec hz
  have hzz := fun w => Go.Vc.zeroC_run (P := P) hz w
  unfold placesS at hpl
  split at hpl
  case h_2 => cases hpl
  rename_i fs hfs
  have hrp := Go.Vc.run_mapM_places (P := P) fs.toList pl w hpl
  obtain ⟨v, hv, hc⟩ := hzz w
  have hps : (ps.map fun (x : Nat × Operand) => (x.1, a.eval x.2)).toList = [] := by
   rw [Array.isEmpty_iff] at hp
   subst hp; simp
  have hrun : (execOp a.eval o).run P w = .ok (.value (.agg v.cells)) w := by
   have hm : (fs.mapM (fun f => do pure (f.offset, ← sizeOf f.type) : Field → Sem (Nat × Nat))).run P w = .ok pl.toArray w := by
    rw [← Array.toArray_toList (xs := fs), List.mapM_toArray]
    simp only [Sem.run_map, hrp, Result.andThen_ok]
   simp only [execOp, ho, Instr.build, Sem.run_bind, hv, Result.andThen_ok, underlying_run hfs, hm, hps, Instr.fill]
   rfl
  have : v.cells = z.toArray := by rw [← hc]
  rw [this] at hrun
  exact wp_value hrun (hK _ _ _ (hs.put o.dst (x := .c (.v _)) rfl) (kp_put _ _ _) (.inr (Stay.refl w)) h)
 ·rename_i h1 h2 h3 h5 h4
  exact via (by unfold isCallO; split <;> first | rfl | (rename_i c hc; exact (h1 c hc).elim)) (fun hst => by unfold isStoreO at hst; split at hst <;> first | (rename_i t x y hh; exact (h2 t x y hh).elim) | cases hst) h
def takeX (o : Oper) : Bool :=
 match o.op with
 | .move _ | .assign _ | .fieldAddr .. | .indexAddr .. | .load .. | .binOp .. | .convert .. | .nilCheck _ | .slice .. => true
 | .call c => (match c.callee with | .builtin .len => true | _ => false)
 | _ => false
theorem x_take {o : Oper} (hs : CSim n f a) (h : xOp P n o K f w) (ht : takeX o = true) : ∃ x v, (∀ w', Sw o w w' → (execOp a.eval o).run P w' = .ok (.value v) w') ∧ Rv x v ∧ K (put n f o.dst x) w := by
 unfold takeX at ht
 split at ht <;> rename_i ho
 ·simp only [xOp, cOp, ho] at h
  exact ⟨_, _, fun w' _ => by simp [execOp, ho], ev_rv hs _, h⟩
 ·simp only [xOp, cOp, ho] at h
  exact ⟨_, _, fun w' _ => by simp [execOp, ho], ev_rv hs _, h⟩
 ·rename_i T x k
  simp only [xOp, cOp, ho] at h
  have hx := ev_rv hs x
  split at h
  ·rename_i q b off hq e1
   rw [e1] at hx
   have hx : a.eval x = _ := hx
   refine ⟨.c (.v _), .pointer (some ⟨b, off + q, none⟩), fun w' _ => ?_, rfl, h⟩
   have := fieldOff_spec hq ⟨b, off, none⟩ w'
   rw [add_lit0] at this
   simp only [execOp, ho, hx]; exact run_v this
  ·exact h.elim
 ·rename_i T x i
  simp only [xOp, cOp, ho] at h
  have hx := ev_rv hs x
  have hi := ev_rv hs i
  split at h
  ·rename_i b off ln cp kk k e sz by' e1 e2 hel
   rw [e1] at hx; rw [e2] at hi
   have hx : a.eval x = _ := hx
   have hi : a.eval i = _ := hi
   obtain ⟨h0, h1, h⟩ := h
   obtain ⟨hu, inf, hinf, hsz, _⟩ := Go.Vc.elemS_spec hel
   refine ⟨.c (.v _), .pointer (some ⟨b, off + k.toNat * sz, none⟩), fun w' _ => ?_, rfl, h⟩
   have hrun : (execOp a.eval o).run P w' = .ok (.value (.pointer (some (Addr.add ⟨b, off, none⟩ (k.toNat * sz))))) w' := by
    simp [execOp, ho, Instr.indexAt, hi, asIntOf, underlying_run hu, hx, h0, h1, sizeOf, typeInfo, hinf, hsz]
   rwa [add_lit0] at hrun
  ·exact h.elim
 ·rename_i t x
  simp only [xOp, cOp, ho] at h
  have hx := ev_rv hs x
  split at h
  ·rename_i b off e1
   rw [e1] at hx
   have hx : a.eval x = _ := hx
   have hst : ∀ w', Sw o w w' → Stay w w' := fun w' h => h (by simp [lodO, ho])
   split at h
   ·rename_i k ht
    obtain ⟨vs, hl, hc, hk⟩ := h
    refine ⟨.c (.v _), .agg vs.toArray, fun w' hw => ?_, rfl, hk⟩
    have hl := run_loadVar_agg (P := P) (w := w') ht (ad := ⟨b, off, none⟩) (vs := vs) hl (fun j v hj => by rw [add_lit0]; exact (hst w' hw).cell (hc j v hj))
    simp [execOp, ho, Instr.loadAt, Instr.sureAddr, hx, hl]
   ·obtain ⟨ht, v, hv, hk⟩ := h
    refine ⟨.c (.v _), v, fun w' hw => ?_, rfl, hk⟩
    have hl := run_loadVar_one (P := P) (w := w') ht (ad := ⟨b, off, none⟩) (v := v) ((hst w' hw).cell hv)
    simp [execOp, ho, Instr.loadAt, Instr.sureAddr, hx, hl]
  ·exact h.elim
 ·rename_i op t x y yt
  simp only [xOp, cOp, ho] at h
  have hx := ev_rv hs x
  have hy := ev_rv hs y
  split at h
  ·rename_i u v e1 e2
   rw [e1] at hx; rw [e2] at hy
   have hx : a.eval x = u := hx
   have hy : a.eval y = v := hy
   obtain ⟨r, hv, _, hk⟩ := h
   exact ⟨.c (.v r), r, fun w' _ => by have := run_v (hv w'); simpa [execOp, ho, hx, hy] using this, rfl, hk⟩
  ·exact h.elim
 ·rename_i s t x
  simp only [xOp, cOp, ho] at h
  have hx := ev_rv hs x
  split at h
  ·rename_i u e1
   rw [e1] at hx
   have hx : a.eval x = u := hx
   obtain ⟨r, hv, _, hk⟩ := h
   exact ⟨.c (.v r), r, fun w' _ => by have := run_v (hv w'); simpa [execOp, ho, hx] using this, rfl, hk⟩
  ·exact h.elim
 ·rename_i x
  simp only [xOp, cOp, ho] at h
  have hx := ev_rv hs x
  split at h
  ·rename_i ad e1
   rw [e1] at hx
   have hx : a.eval x = _ := hx
   exact ⟨.c (.v _), .pointer (some ad), fun w' _ => by simp [execOp, ho, hx], rfl, h⟩
  ·exact h.elim
 ·rename_i T x lo hi mx
  simp only [xOp, ho] at h
  have hx := ev_rv hs x
  split at h
  ·rename_i ad ln cap l hh e sz by' e1 e0 e2 e3 e4
   split at h
   case h_2 => exact h.elim
   rename_i lo' hi' hlb hhb
   obtain ⟨h0, h1, h2, hk⟩ := h
   rw [e1] at hx
   have hx : a.eval x = _ := hx
   have q0 := optV_rv hs e0
   have q1 := optV_rv hs e2
   have q2 := optV_rv hs e3
   exact ⟨.c (.v _), sliced ad lo'.toNat hi'.toNat cap sz, fun w' _ => by simp [execOp, ho, hx, q0, q1, q2, cut_run e4 hlb hhb h0 h1 h2 w'], rfl, hk⟩
  ·rename_i ad ln cap m l hh e sz by' e1 e0 e2 e3 e4
   split at h
   case h_2 => exact h.elim
   rename_i lo' hi' m' hlb hhb hmb
   obtain ⟨h0, h1, h2, h3, hk⟩ := h
   rw [e1] at hx
   have hx : a.eval x = _ := hx
   have q0 := optV_rv hs e0
   have q1 := optV_rv hs e2
   have q2 := optV_rv hs e3
   exact ⟨.c (.v _), sliced ad lo'.toNat hi'.toNat m'.toNat sz, fun w' _ => by simp [execOp, ho, hx, q0, q1, q2, cut_run_m e4 hlb hhb hmb h0 h1 h2 h3 w'], rfl, hk⟩
  ·exact h.elim
 ·rename_i cc
  split at ht
  case h_2 => cases ht
  rename_i hg
  simp only [xOp, cOp, ho, hg] at h
  split at h
  ·rename_i ad ln cap T e1 e2
   obtain ⟨hT, hk⟩ := h
   obtain ⟨x, hx, hev⟩ := Go.Vc.map1 e1
   have ha := Go.Vc.arr1 hx
   have ht := Go.Vc.arr1 e2
   have hr := ev_rv hs x
   rw [hev] at hr
   have hr : a.eval x = _ := hr
   have hu : ∃ e, P.underlying T = some (.slice e) := by
    unfold Go.Vc.lenK at hT
    split at hT
    ·rename_i e he; exact ⟨e, he⟩
    ·cases hT
    ·cases hT
   exact ⟨.c (.v _), .int .i64 ln, fun w' _ => Go.Vc.len_run ho hg ha ht (.inl ⟨_, _, _, hr, rfl, hu⟩), rfl, hk⟩
  ·rename_i u T e1 e2
   obtain ⟨hT, hk⟩ := h
   obtain ⟨x, hx, hev⟩ := Go.Vc.map1 e1
   have ha := Go.Vc.arr1 hx
   have ht := Go.Vc.arr1 e2
   have hr := ev_rv hs x
   rw [hev] at hr
   have hr : a.eval x = _ := hr
   have hu : P.underlying T = some .string := by
    unfold Go.Vc.lenK at hT
    split at hT
    ·cases hT
    ·assumption
    ·cases hT
   exact ⟨.c (.v _), .int .i64 u.size, fun w' _ => Go.Vc.len_run ho hg ha ht (.inr ⟨_, hr, rfl, hu⟩), rfl, hk⟩
  ·exact h.elim
 ·cases ht
theorem cGuard_cases {o : Oper} {step : K1 → K1} (hs : CSim n f a) (h : cGuard n ops o step K f w) :
 (Region.wanted o (yielded ops a.tmps) = true ∧ step K f w) ∨ (Region.wanted o (yielded ops a.tmps) = false ∧ K (put n f o.dst (.c (.v (.tuple #[])))) w) := by
 unfold cGuard at h
 split at h
 ·rename_i hg
  exact .inl ⟨by simp [Region.wanted, hg], h⟩
 ·rename_i j want hg
  split at h
  ·rename_i g hgs
   have hslot := hs.slots g
   split at h
   ·rename_i b hb
    rw [hb] at hslot
    have hslot : a.tmps.getD g undef = .bool b := hslot
    have hy : yielded ops a.tmps j = some b := by
     unfold guardSlot at hgs
     simp only [yielded, hgs, Option.bind_some]
     have : a.tmps[g]? = some (.bool b) := by
      rw [Array.getD_eq_getD_getElem?] at hslot
      cases hq : a.tmps[g]? with
      | none => simp [hq, undef] at hslot
      | some q => simp [hq] at hslot; rw [hslot]
     rw [this]
    by_cases hbw : b = want
    ·subst hbw
     exact .inl ⟨by simp [Region.wanted, hg, hy], h.1 rfl⟩
    ·have hbn : b = !want := by cases b <;> cases want <;> simp_all
     subst hbn
     exact .inr ⟨by simp [Region.wanted, hg, hy], h.2 rfl⟩
   ·rename_i xs hb
    rw [hb] at hslot
    have hslot : a.tmps.getD g undef = .tuple xs := hslot
    have hy : yielded ops a.tmps j = none := by
     unfold guardSlot at hgs
     simp only [yielded, hgs, Option.bind_some]
     rw [Array.getD_eq_getD_getElem?] at hslot
     cases hq : a.tmps[g]? with
     | none => rfl
     | some q => simp [hq] at hslot; rw [hslot]
    exact .inr ⟨by simp [Region.wanted, hg, hy], h⟩
   ·exact h.elim
  ·exact h.elim
def okTakeX (ops : Array Oper) (listed : Array Bool) (i : Nat) : Bool :=
 match ops[i]? with
 | none => false
 | some oi => takeX oi && (!lodO oi || (List.range ops.size).all fun j => listed.getD j true || (match ops[j]? with | some oj => !exX oj | none => true) || desc ops i ops.size j)
def planOkX (ops : Array Oper) : Nat → Array Bool → Bool → Plan → Bool
 | _, listed, top, .done => top && (Region.ready .any ops listed).isEmpty
 | _, _, top, .nobr => !top
 | fuel, listed, top, .take i p => decide (0 < fuel) && top && (Region.ready .any ops listed).contains i && Region.free .any ops listed i && okTakeX ops listed i && planOkX ops (fuel - 1) (listed.setIfInBounds i true) true p
 | fuel, listed, top, .br i p q => decide (0 < fuel) && (!top || (Region.ready .any ops listed == i :: q.heads)) && planOkX ops (fuel - 1) (listed.setIfInBounds i true) true p && planOkX ops fuel listed false q
def xPlan (P : Program) (n : Nat) (ops : Array Oper) (K : K1) : Plan → K1
 | .done => K
 | .nobr => fun _ _ => True
 | .take i p => fun f w => match ops[i]? with
  | some o => cGuard n ops o (xOp P n o) (xPlan P n ops K p) f w
  | none => False
 | .br i p r => fun f w => (match ops[i]? with
  | some o => cGuard n ops o (xOp P n o) (xPlan P n ops K p) f w
  | none => False) ∧ xPlan P n ops K r f w
def xDrawn (P : Program) (n : Nat) (ops : Array Oper) (K : K1) : K1 := fun f w =>
 Region.noSelect ops = true ∧ ∃ p : Plan, planOkX ops ops.size (Array.replicate ops.size false) true p = true ∧ ∀ w1, w1 = w.drew → xPlan P n ops K p f w1
theorem xPlan_sound (hsel : Region.noSelect ops = true) (hQ : ∀ c a w, ¬ Q (.panic c) a w) : ∀ (r : Plan),
 (∀ (fuel : Nat) (listed : Array Bool) {f : Rg} {a : Act} {w : World}, planOkX ops fuel listed true r = true → Closed ops listed →
   CSim n f a → xPlan P n ops K r f w → (∀ f' a' w', CSim n f' a' → Kp (dstsOps ops.toList) a a' → K f' w' → Q .normal a' w') → wpAnyB P ops exX Q fuel listed a w) ∧
 (∀ (fuel : Nat) (listed : Array Bool) {f : Rg} {a : Act} {w : World}, planOkX ops fuel listed false r = true → Closed ops listed → (∀ i ∈ r.heads, i ∈ Region.ready .any ops listed) →
   CSim n f a → xPlan P n ops K r f w → (∀ f' a' w', CSim n f' a' → Kp (dstsOps ops.toList) a a' → K f' w' → Q .normal a' w') → ∀ i ∈ r.heads,
    0 < fuel ∧ wpOp P ops Q i (fun a' w' => ((∃ o, ops[i]? = some o ∧ exX o = true) ∨ Stay w w') ∧ wpAnyB P ops exX Q (fuel - 1) (listed.setIfInBounds i true) a' w') a w) := by
 have kpo : ∀ {i : Nat} {o : Oper} {a1 a2 : Act}, ops[i]? = some o → (∀ j, j ∉ o.dst.toList → a2.tmps.getD j undef = a1.tmps.getD j undef) → Kp (dstsOps ops.toList) a1 a2 := fun ho h => Kp.mono (ws := _) h fun j hj => dst_mem ho j hj
 intro r
 induction r with
 | done =>
  refine ⟨fun fuel listed f a w hp hc hs h hK => ?_, fun fuel listed f a w hp => by simp [planOkX] at hp⟩
  simp only [planOkX, Bool.true_and, List.isEmpty_iff] at hp
  have hq : Q .normal a w := hK _ _ _ hs (Kp.refl _ _) h
  cases fuel with
  | zero => exact ⟨hp, hq⟩
  | succ k => exact ⟨fun _ => hq, by rw [hp]; simp⟩
 | nobr => exact ⟨fun fuel listed f a w hp => by simp [planOkX] at hp, fun fuel listed f a w hp hc hr hs h hK i hi => by simp [Plan.heads] at hi⟩
 | take i r ih =>
  refine ⟨fun fuel listed f a w hp hc hs h hK => ?_, fun fuel listed f a w hp => by simp [planOkX] at hp⟩
  simp only [planOkX, Bool.and_eq_true, decide_eq_true_eq] at hp
  obtain ⟨⟨⟨⟨⟨hfu, _⟩, hr⟩, hfree⟩, hok⟩, hp⟩ := hp
  have hr : i ∈ Region.ready .any ops listed := by simpa using hr
  obtain ⟨k, rfl⟩ : ∃ k, fuel = k + 1 := ⟨fuel - 1, by omega⟩
  simp only [Nat.add_sub_cancel] at hp
  unfold xPlan at h
  split at h
  case h_2 => exact h.elim
  rename_i o ho
  unfold okTakeX at hok
  simp only [ho, Bool.and_eq_true] at hok
  obtain ⟨htake, hok⟩ := hok
  have hex : lodO o = true → ∀ j oj, ops[j]? = some oj → listed.getD j true = false → exX oj = true → desc ops i ops.size j = true := fun hl j oj hj hun hx => by
   simp only [hl, Bool.not_true, Bool.false_or, List.all_eq_true, List.mem_range] at hok
   have := hok j (Array.getElem?_eq_some_iff.1 hj).1
   simpa [hun, hj, hx] using this
  have go : ∀ {x : S} {v : Value}, YieldsIf P ops (Sw o w) o v a → Rv x v → xPlan P n ops K r (put n f o.dst x) w → wpAnyB P ops exX Q (k + 1) listed a w := by
   intro x v hy hcx hk
   refine wpAnyB_first ho (Region.noSelect_spec hsel) (fun c a w hq => (hQ _ _ _ hq).elim) k listed a w hc (Region.free_spec ho hfree) hex hr hy ?_
   exact ih.1 k _ hp (hc.set hr) (hs.put o.dst hcx) hk fun f' a' w' hs' hk' h' => hK _ _ _ hs' ((kpo ho (kp_put a o.dst v)).trans hk') h'
  rcases cGuard_cases hs h with ⟨hw, h1⟩ | ⟨hw, h1⟩
  ·obtain ⟨x, v, hrun, hcx, hk⟩ := x_take hs h1 htake
   exact go (.inl ⟨hw, hrun⟩) hcx hk
  ·exact go (x := .c (.v (.tuple #[]))) (.inr ⟨hw, rfl⟩) rfl h1
 | br i r q ihp ihq =>
  have main : ∀ (fuel : Nat) (listed : Array Bool) {f : Rg} {a : Act} {w : World}, 0 < fuel → planOkX ops (fuel - 1) (listed.setIfInBounds i true) true r = true → Closed ops listed →
   i ∈ Region.ready .any ops listed → CSim n f a → xPlan P n ops K (.br i r q) f w → (∀ f' a' w', CSim n f' a' → Kp (dstsOps ops.toList) a a' → K f' w' → Q .normal a' w') →
   wpOp P ops Q i (fun a' w' => ((∃ o, ops[i]? = some o ∧ exX o = true) ∨ Stay w w') ∧ wpAnyB P ops exX Q (fuel - 1) (listed.setIfInBounds i true) a' w') a w := by
   intro fuel listed f a w hfu hp hc hr hs h hK
   obtain ⟨h, _⟩ := h
   split at h
   case h_2 => exact h.elim
   rename_i o ho
   unfold wpOp
   simp only [ho]
   have rest : ∀ {f' : Rg} {a' : Act} {w' : World}, CSim n f' a' → (∀ j, j ∉ o.dst.toList → a'.tmps.getD j undef = a.tmps.getD j undef) → xPlan P n ops K r f' w' → wpAnyB P ops exX Q (fuel - 1) (listed.setIfInBounds i true) a' w' := by
    intro f' a' w' hs' hk' h'
    exact ihp.1 (fuel - 1) _ hp (hc.set hr) hs' h' fun f'' a'' w'' hs'' hk'' h'' => hK _ _ _ hs'' ((kpo ho hk').trans hk'') h''
   rcases cGuard_cases hs h with ⟨hw, h1⟩ | ⟨hw, h1⟩
   ·simp only [hw, if_true]
    exact .inl (xOp_sound hs h1 fun f' a' w' q1 q2 q3 q4 => ⟨q3.imp (fun he => ⟨o, rfl, he⟩) id, rest q1 q2 q4⟩)
   ·simp only [hw, Bool.false_eq_true, if_false]
    exact ⟨.inr (Stay.refl w), rest (hs.put o.dst (x := .c (.v (.tuple #[]))) rfl) (kp_put a o.dst undef) h1⟩
  refine ⟨fun fuel listed f a w hp hc hs h hK => ?_, fun fuel listed f a w hp hc hr hs h hK j hj => ?_⟩
  ·simp only [planOkX, Bool.and_eq_true, decide_eq_true_eq, Bool.not_true, Bool.false_or, beq_iff_eq] at hp
   obtain ⟨⟨⟨hfu, hready⟩, hp⟩, hq⟩ := hp
   have hin : i ∈ Region.ready .any ops listed := by rw [hready]; simp
   obtain ⟨k, rfl⟩ : ∃ k, fuel = k + 1 := ⟨fuel - 1, by omega⟩
   refine ⟨fun h0 => (by rw [h0] at hready; cases hready), fun j hj => ?_⟩
   rw [hready] at hj
   rcases List.mem_cons.1 hj with rfl | hj
   ·have := main (k + 1) listed hfu hp hc hin hs h hK
    simpa using this
   ·have := (ihq.2 (k + 1) listed hq hc (fun j hj => by rw [hready]; simp [hj]) hs h.2 hK j hj).2
    simpa using this
  ·simp only [planOkX, Bool.and_eq_true, decide_eq_true_eq, Bool.not_false, Bool.true_or, and_true] at hp
   obtain ⟨⟨hfu, hp⟩, hq⟩ := hp
   simp only [Plan.heads] at hj hr
   rcases List.mem_cons.1 hj with rfl | hj
   ·exact ⟨hfu, main fuel listed hfu hp hc (hr j (by simp)) hs h hK⟩
   ·exact ihq.2 fuel listed hq hc (fun j hj => hr j (by simp [hj])) hs h.2 hK j hj
theorem xDrawn_sound {id : Nat} (hm : P.follows .mixedOrders = true) (hs : CSim n f a) (h : xDrawn P n ops K f w)
 (hK : ∀ f' a' w', CSim n f' a' → Kp (dstsOps ops.toList) a a' → K f' w' → Ka a' w') : (Code.region id ops true).wp P (fun e a w => e = .normal ∧ Ka a w) a w := by
 obtain ⟨hsel, r, hp, h⟩ := h
 have hb := (xPlan_sound (P := P) (n := n) (K := K) (Q := fun e a w => e = .normal ∧ Ka a w) hsel (fun c a w hq => by cases hq.1) r).1 ops.size (Array.replicate ops.size false) hp closed_start hs (h _ rfl)
  (fun f' a' w' hs' hk' h' => ⟨rfl, hK _ _ _ hs' hk' h'⟩)
 exact wp_region_any (id := id) hm (wpAny_of_B _ _ _ _ hb)
end
def xl (P : Program) (n : Nat) (ops : Array Oper) (K : K1) : List Oper → Rg → World → Prop
 | [], f, w => K f w
 | o :: r, f, w => cGuard n ops o (xOp P n o) (xl P n ops K r) f w
def xc (P : Program) (n : Nat) : Code → KX → Rg → World → Prop
 | .skip, K, f, w => K .normal f w
 | .label _, K, f, w => K .normal f w
 | .region _ ops false, K, f, w => xl P n ops (K .normal) ops.toList f w
 | .region _ ops true, K, f, w => P.follows .mixedOrders = true ∧ xDrawn P n ops (K .normal) f w
 | .seq a b, K, f, w => xc P n a (fun e => match e with | .normal => xc P n b K | e => K e) f w
 | .cond x a b, K, f, w => (match ev f x with
  | .c (.v (.bool t)) => (t = true → xc P n a K f w) ∧ (t = false → xc P n b K f w)
  | _ => False)
 | .block id a, K, f, w => xc P n a (fun e => match e with
  | .exit id' => if id' = id then K .normal else K (.exit id')
  | e => K e) f w
 | .loop a, K, f, w => cLoop (dsts a) (xc P n a) K f w
 | .exit id, K, f, w => K (.exit id) f w
 | .ret, K, f, w => K .ret f w
 | _, _, _, _ => False
section
variable {P : Program} {n : Nat} {f : Rg} {a : Act} {w : World} {K : K1} {Ka : Act → World → Prop} {Q : Exit → Act → World → Prop} {ops : Array Oper}
theorem xl_sound : ∀ (l : List Oper) {f : Rg} {a : Act} {w : World}, CSim n f a → xl P n ops K l f w → (∀ f' a' w', CSim n f' a' → Kp (dstsOps l) a a' → K f' w' → Q .normal a' w') → wpList P ops Q l a w
 | [], _, _, _, hs, h, hK => hK _ _ _ hs (Kp.refl _ _) h
 | o :: r, f, a, w, hs, h, hK => by
  have step : ∀ {f' a' w'}, CSim n f' a' → (∀ j, j ∉ o.dst.toList → a'.tmps.getD j undef = a.tmps.getD j undef) → xl P n ops K r f' w' → wpList P ops Q r a' w' := fun hs' hk h' => xl_sound r hs' h' fun f'' a'' w'' hs'' hk'' h'' => hK _ _ _ hs'' (by
   have hd : dstsOps (o :: r) = o.dst.toList ++ dstsOps r := by simp only [dstsOps]; cases o.dst <;> rfl
   rw [hd]
   exact (Kp.mono (ws := o.dst.toList) hk fun j hj => by simp [hj]).trans (hk''.mono fun j hj => by simp [hj])) h''
  have h : cGuard n ops o (xOp P n o) (xl P n ops K r) f w := h
  unfold wpList
  rcases cGuard_cases hs h with ⟨hw, h1⟩ | ⟨hw, h1⟩
  ·rw [if_pos hw]
   exact .inl (xOp_sound hs h1 fun f' a' w' hs' hk _ h' => step hs' hk h')
  ·rw [if_neg (by simp [hw])]
   exact step (hs.put o.dst (x := .c (.v (.tuple #[]))) rfl) (kp_put _ _ _) h1
theorem x_sound : ∀ (x : Code) {K : KX} {Q : Exit → Act → World → Prop} {f : Rg} {a : Act} {w : World}, CSim n f a → xc P n x K f w →
 (∀ e f' a' w', CSim n f' a' → Kp (dsts x) a a' → K e f' w' → Q e a' w') → x.wp P Q a w
 | .skip, K, Q, f, a, w, hs, h, hK => wp_skip (hK _ _ _ _ hs (Kp.refl _ _) h)
 | .label _, K, Q, f, a, w, hs, h, hK => wp_label (hK _ _ _ _ hs (Kp.refl _ _) h)
 | .exit _, K, Q, f, a, w, hs, h, hK => wp_exit (hK _ _ _ _ hs (Kp.refl _ _) h)
 | .ret, K, Q, f, a, w, hs, h, hK => wp_ret (hK _ _ _ _ hs (Kp.refl _ _) h)
 | .region id ops false, K, Q, f, a, w, hs, h, hK => wp_region_list (xl_sound ops.toList hs h fun _ _ _ hs' hk h' => hK _ _ _ _ hs' hk h')
 | .region id ops true, K, Q, f, a, w, hs, h, hK => by
  refine Code.wp_mono (fun e a' w' he => ?_) (xDrawn_sound (id := id) (Ka := fun a' w' => Q .normal a' w') h.1 hs h.2 fun f' a' w' hs' hk h' => hK _ _ _ _ hs' hk h')
  obtain ⟨rfl, he⟩ := he
  exact he
 | .seq x y, K, Q, f, a, w, hs, h, hK => by
  refine wp_seq (x_sound x hs h fun e f' a' w' hs' hk h' => ?_)
  have hk1 : Kp (dsts (.seq x y)) a a' := hk.mono fun j hj => by simp [dsts, hj]
  cases e with
  | normal => exact x_sound y hs' h' fun e f'' a'' w'' hs'' hk'' h'' => hK _ _ _ _ hs'' (hk1.trans (hk''.mono fun j hj => by simp [dsts, hj])) h''
  | exit id => exact hK _ _ _ _ hs' hk1 h'
  | goto l => exact hK _ _ _ _ hs' hk1 h'
  | ret => exact hK _ _ _ _ hs' hk1 h'
  | panic ch => exact hK _ _ _ _ hs' hk1 h'
  | outgrown => exact hK _ _ _ _ hs' hk1 h'
 | .cond x p q, K, Q, f, a, w, hs, h, hK => by
  have hc := ev_rv hs x
  unfold xc at h
  split at h
  ·rename_i t hev
   rw [hev] at hc
   refine wp_cond_split (t := t) hc (fun ht => ?_) (fun ht => ?_)
   ·exact x_sound p hs (h.1 ht) fun e f' a' w' hs' hk h' => hK _ _ _ _ hs' (hk.mono fun j hj => by simp [dsts, hj]) h'
   ·exact x_sound q hs (h.2 ht) fun e f' a' w' hs' hk h' => hK _ _ _ _ hs' (hk.mono fun j hj => by simp [dsts, hj]) h'
  ·exact h.elim
 | .block id x, K, Q, f, a, w, hs, h, hK => by
  refine wp_block (x_sound x hs h fun e f' a' w' hs' hk h' => ?_)
  have hk1 : Kp (dsts (.block id x)) a a' := hk
  cases e with
  | exit id' =>
   simp only [Exit.inBlock]
   by_cases hid : id' = id
   ·simp only [hid, if_true] at h' ⊢; exact hK _ _ _ _ hs' hk1 h'
   ·simp only [hid, if_false] at h' ⊢; exact hK _ _ _ _ hs' hk1 h'
  | normal => exact hK _ _ _ _ hs' hk1 h'
  | goto l => exact hK _ _ _ _ hs' hk1 h'
  | ret => exact hK _ _ _ _ hs' hk1 h'
  | panic ch => exact hK _ _ _ _ hs' hk1 h'
  | outgrown => exact hK _ _ _ _ hs' hk1 h'
 | .loop x, K, Q, f, a, w, hs, h, hK => by
  obtain ⟨I, μ, h0, hround⟩ := h
  have mix : ∀ {f' : Rg} {a' : Act}, CSim n f' a' → Kp (dsts x) a a' → CSim n (mixR (dsts x) f f') a' := fun {f' a'} hs' hk => ⟨hs'.size, hs'.defers, fun i => by
   simp only [mixR]
   split
   ·exact hs'.slots i
   ·rename_i hi
    rw [hk i fun e => hi (Go.Vc.inN_iff.2 e)]
    exact rv_kS (hs.slots i)⟩
  refine wp_loop_nat (P := P) (k₀ := μ (mixR (dsts x) f f) w) (fun k a' w' => ∃ g, CSim n (mixR (dsts x) f g) a' ∧ Kp (dsts x) a a' ∧ I (mixR (dsts x) f g) w' ∧ k = μ (mixR (dsts x) f g) w') ?_ ⟨f, mix hs (Kp.refl _ _), Kp.refl _ _, h0, rfl⟩
  rintro k a' w' ⟨g, hs2, hk2, hI, rfl⟩
  refine x_sound x hs2 (hround g w' hI) fun e f'' a'' w'' hs'' hk'' h'' => ?_
  have hk3 := hk2.trans hk''
  have hk4 : Kp (dsts (.loop x)) a a'' := hk3
  cases e with
  | normal => exact ⟨_, h''.2, f'', mix hs'' hk3, hk3, h''.1, rfl⟩
  | exit id => exact hK _ _ _ _ hs'' hk4 h''
  | goto l => exact hK _ _ _ _ hs'' hk4 h''
  | ret => exact hK _ _ _ _ hs'' hk4 h''
  | panic ch => exact hK _ _ _ _ hs'' hk4 h''
  | outgrown => exact hK _ _ _ _ hs'' hk4 h''
 | .rangeFunc _ _ _ _, K, Q, f, a, w, _, h, _ => h.elim
 | .scope _, K, Q, f, a, w, _, h, _ => h.elim
 | .goto _, K, Q, f, a, w, _, h, _ => h.elim
 | .refuse _, K, Q, f, a, w, _, h, _ => h.elim
theorem calls_of_x {fi : FuncId} {fn : Func} {cd : Code} {vs : List Value} {R : Value → World → Prop} (hf : P.funcs[fi]? = some fn) (hb : fn.body = some cd) (hl : vs.length ≤ fn.ntmps)
 (h : xc P fn.ntmps cd (cEnd fn.results.toList R) (regsV vs) w) : Calls P fi vs.toArray w (fun e w' => ∃ v, e = .returned v ∧ R v w') := by
 refine calls_of_wp hf hb ?_
 refine x_sound cd ⟨by simp; omega, rfl, fun i => ?_⟩ h fun e f' a' w' hs' _ h' => ?_
 ·have := regsV_rv (fn.ntmps - vs.length) vs i
  have e : (vs.toArray ++ Array.replicate (fn.ntmps - vs.toArray.size) undef)[i]? = (vs ++ List.replicate (fn.ntmps - vs.length) undef)[i]? := by
   rw [← Array.getElem?_toList]; simp
  simp only [Array.getD_eq_getD_getElem?, e]; exact this
 ·have fin : cRet fn.results.toList R f' w' → a'.defers = [] ∧ ∃ v, (results fn a'.tmps).run P w' = .ok v w' ∧ ∃ u, Ending.returned v = .returned u ∧ R u w' := by
   intro h'
   unfold cRet at h'
   split at h'
   ·rename_i t hrs
    have hslot := hs'.slots t
    split at h'
    ·rename_i x hx
     rw [hx] at hslot
     refine ⟨hs'.defers, x, ?_, x, rfl, h'⟩
     have := Go.Vc.results_run (fn := fn) (a := a') (vs := [x]) (w := w') (P := P) (by rw [hrs]; simp only [List.mapM_cons, List.mapM_nil, Sem.run_bind, Go.Vc.resV, Sem.run_pure, Result.andThen_ok]; rw [show a'.tmps.getD t undef = x from hslot])
     exact this
    ·exact h'.elim
   ·exact h'.elim
  cases e with
  | normal => exact fin h'
  | ret => exact fin h'
  | exit id => exact h'.elim
  | goto l => exact h'.elim
  | panic ch => exact h'.elim
  | outgrown => exact h'.elim
end
def xRet (P : Program) (rs : List ResultVar) (R : Value → World → Prop) : K1 := fun f w => match rs with
 | [.tmp t] => (match f t with | .c (.v x) => R x w | _ => False)
 | [.cell t ty] => (match f t, tyS P ty with
  | .c (.v (.pointer (some ⟨b, off, none⟩))), .agg k => ∃ vs : List Value, vs.length = k ∧ Cells w b off vs ∧ R (.agg vs.toArray) w
  | .c (.v (.pointer (some ⟨b, off, none⟩))), .one => ∃ v, w.cell? ⟨b, off, none⟩ = some v ∧ R v w
  | _, _ => False)
 | _ => False
def xEnd (P : Program) (rs : List ResultVar) (R : Value → World → Prop) : KX
 | .normal | .ret => xRet P rs R
 | _ => fun _ _ => False
section
variable {P : Program} {n : Nat} {f : Rg} {a : Act} {w : World}
theorem calls_of_y {fi : FuncId} {fn : Func} {cd : Code} {vs : List Value} {R : Value → World → Prop} (hf : P.funcs[fi]? = some fn) (hb : fn.body = some cd) (hl : vs.length ≤ fn.ntmps)
 (h : xc P fn.ntmps cd (xEnd P fn.results.toList R) (regsV vs) w) : Calls P fi vs.toArray w (fun e w' => ∃ v, e = .returned v ∧ R v w') := by
 refine calls_of_wp hf hb ?_
 refine x_sound cd ⟨by simp; omega, rfl, fun i => ?_⟩ h fun e f' a' w' hs' _ h' => ?_
 ·have := regsV_rv (fn.ntmps - vs.length) vs i
  have e : (vs.toArray ++ Array.replicate (fn.ntmps - vs.toArray.size) undef)[i]? = (vs ++ List.replicate (fn.ntmps - vs.length) undef)[i]? := by
   rw [← Array.getElem?_toList]; simp
  simp only [Array.getD_eq_getD_getElem?, e]; exact this
 ·have fin : xRet P fn.results.toList R f' w' → a'.defers = [] ∧ ∃ v, (results fn a'.tmps).run P w' = .ok v w' ∧ ∃ u, Ending.returned v = .returned u ∧ R u w' := by
   intro h'
   unfold xRet at h'
   split at h'
   ·rename_i t hrs
    have hslot := hs'.slots t
    split at h'
    ·rename_i x hx
     rw [hx] at hslot
     refine ⟨hs'.defers, x, ?_, x, rfl, h'⟩
     have := Go.Vc.results_run (fn := fn) (a := a') (vs := [x]) (w := w') (P := P) (by rw [hrs]; simp only [List.mapM_cons, List.mapM_nil, Sem.run_bind, Go.Vc.resV, Sem.run_pure, Result.andThen_ok]; rw [show a'.tmps.getD t undef = x from hslot])
     exact this
    ·exact h'.elim
   ·rename_i t ty hrs
    have hslot := hs'.slots t
    split at h'
    ·rename_i b off k hx ht
     rw [hx] at hslot
     have hslot : a'.tmps.getD t undef = _ := hslot
     obtain ⟨vs, hl, hc, hR⟩ := h'
     have hr := run_loadVar_agg (P := P) (w := w') ht (ad := ⟨b, off, none⟩) (vs := vs) hl (fun j v hj => by rw [add_lit0]; exact hc j v hj)
     refine ⟨hs'.defers, _, ?_, _, rfl, hR⟩
     have := Go.Vc.results_run (fn := fn) (a := a') (vs := [.agg vs.toArray]) (w := w') (P := P) (by rw [hrs]; simp [List.mapM_cons, List.mapM_nil, Go.Vc.resV, hslot, asAddr, hr])
     exact this
    ·rename_i b off hx ht
     rw [hx] at hslot
     have hslot : a'.tmps.getD t undef = _ := hslot
     obtain ⟨v, hv, hR⟩ := h'
     have hr := run_loadVar_one (P := P) (w := w') ht (ad := ⟨b, off, none⟩) (v := v) hv
     refine ⟨hs'.defers, _, ?_, _, rfl, hR⟩
     have := Go.Vc.results_run (fn := fn) (a := a') (vs := [v]) (w := w') (P := P) (by rw [hrs]; simp [List.mapM_cons, List.mapM_nil, Go.Vc.resV, hslot, asAddr, hr])
     exact this
    ·exact h'.elim
   ·exact h'.elim
  cases e with
  | normal => exact fin h'
  | ret => exact fin h'
  | exit id => exact h'.elim
  | goto l => exact h'.elim
  | panic ch => exact h'.elim
  | outgrown => exact h'.elim
end
theorem ChL.at {F : List Nat} {w w' : World} (g : ChL F w w') {x : Nat} {o : Obj} (h : w.heap[x]? = some o) (hx : x ∉ F) : w'.heap[x]? = some o := (g.keep x (Array.getElem?_eq_some_iff.1 h).1 hx).trans h
end Go.Cx
namespace Go.Cx
open Go Go.RowKit Go.Dv Go.Cv
open Go.Vc (vis vis_of_cell CellF RowF ValsF D okV Cells Chg Grow add_lit0 callable)
structure OwnT (w : World) (ds : List D) (vs : List Value) (F : List Nat) : Prop where
 val : ValsF w ds vs F
 nodup : F.Nodup
 own : OwnL w F
 wh : WhL w ds vs
section
variable {w w' : World}
theorem chl_own {F G : List Nat} (g : ChL G w w') (h : OwnL w F) (hd : ∀ x ∈ F, x ∉ G) : OwnL w' F := fun x hx => by
 obtain ⟨cs, t, lh, e, hl⟩ := h x hx
 exact ⟨cs, t, lh, (g.keep x (Array.getElem?_eq_some_iff.1 e).1 (hd x hx)).trans e, hl⟩
theorem OwnT.keep {ds : List D} {vs : List Value} {F G : List Nat} (h : OwnT w ds vs F) (g : ChL G w w') (hd : ∀ x ∈ F, x ∉ G) : OwnT w' ds vs F :=
 have hk : ∀ b ∈ F, w'.heap[b]? = w.heap[b]? := fun b hb => g.keep b (Go.Cv.vis_lt (h.own.vis b hb)) (hd b hb)
 ⟨h.val.chg g.chg hd, h.nodup, chl_own g h.own hd, h.wh.monoF hk h.val⟩
theorem OwnT.split {a b : List D} {vs : List Value} {F : List Nat} (h : OwnT w (a ++ b) vs F) : ∃ va vb Fa Fb, vs = va ++ vb ∧ F = Fa ++ Fb ∧ OwnT w a va Fa ∧ OwnT w b vb Fb ∧ ∀ x ∈ Fa, x ∉ Fb := by
 obtain ⟨h1, h2, h3, h4⟩ := h
 obtain ⟨va, vb, Fa, Fb, rfl, rfl, ka, kb⟩ := h1.split
 obtain ⟨w1, w2⟩ := WhL.of_app ka.length h4
 obtain ⟨n1, n2, n3⟩ := List.nodup_append.1 h2
 exact ⟨va, vb, Fa, Fb, rfl, rfl, ⟨ka, n1, h3.sub (fun x hx => by simp [hx]), w1⟩, ⟨kb, n2, h3.sub (fun x hx => by simp [hx]), w2⟩, fun x hx hy => n3 x hx x hy rfl⟩
theorem OwnT.join {a b : List D} {va vb : List Value} {Fa Fb : List Nat} (h : OwnT w a va Fa) (k : OwnT w b vb Fb) (hd : ∀ x ∈ Fa, x ∉ Fb) : OwnT w (a ++ b) (va ++ vb) (Fa ++ Fb) :=
 ⟨h.val.join k.val, List.nodup_append.2 ⟨h.nodup, k.nodup, fun x hx y hy e => hd x hx (e ▸ hy)⟩, h.own.app k.own, h.wh.append k.wh⟩
theorem OwnT.one {d : D} {vs : List Value} {F : List Nat} (h : OwnT w [d] vs F) : ∃ v, vs = [v] ∧ CellF w d v F ∧ Wh w d v := by
 obtain ⟨v, r, F1, R, rfl, c, hr, rfl⟩ := vals_cons h.val
 obtain ⟨rfl, rfl⟩ := vals_nil hr
 exact ⟨v, rfl, by simpa using c, h.wh.1⟩
theorem OwnT.into {n : Nat} {ds : List D} {v : Value} {F : List Nat} (h : OwnT w [.sl n ds] [v] F) (hne : ds ≠ []) : ∃ b cap vs F' cur t fz sz, v = .slice (some ⟨b, 0, none⟩) n cap ∧ F = b :: F' ∧ OwnT w ds vs F' ∧ b ∉ F' ∧ Cells w b 0 vs ∧
 w.heap[b]? = some (.cells cur t fz) ∧ Lh cur.size fz ∧ n ≤ cap ∧ cap ≤ maxLen ∧ ds.length = n * sz ∧ cap * sz ≤ cur.size := by
 obtain ⟨v', e, hc, hw⟩ := h.one
 injection e with e
 subst e
 obtain ⟨a, cap, rfl, h1, h2, h3, hc⟩ := hc
 obtain ⟨a', cap', e, h0, hw⟩ := hw
 injection e with e1 e2 e3
 subst e1 e3
 obtain ⟨b, cs, ty, lh, sz, rfl, hb, hsz, hcap, hwr⟩ := hw.resolve_left hne
 obtain ⟨_, b', o, F', e, hr, rfl⟩ := hc.resolve_left (fun e => hne e.1)
 injection e with e
 injection e with e e'
 subst e e'
 obtain ⟨vs, hcells, hv⟩ := hr.vals
 obtain ⟨cur, t, fz, hb', hlh⟩ := h.own b (by simp)
 rw [hb] at hb'
 injection hb' with hb'
 injection hb' with q1 q2 q3
 subst q1 q2 q3
 obtain ⟨nb, nf⟩ := List.nodup_cons.1 h.nodup
 exact ⟨b, cap, vs, F', cs, ty, lh, sz, rfl, rfl, ⟨hv, nf, h.own.sub (fun x hx => by simp [hx]), WhR.vals hv.length (fun j u hj => by simpa using hcells j u hj) hwr⟩, nb, hcells, hb, hlh, h1, h2, hsz, hcap⟩
theorem OwnT.outof {n b cap sz : Nat} {ds : List D} {vs : List Value} {F : List Nat} {cur : Array Value} {t : TypeId} {fz : Nat × Nat} (h : OwnT w ds vs F) (hb : b ∉ F) (hc : Cells w b 0 vs) (hh : w.heap[b]? = some (.cells cur t fz)) (hl : Lh cur.size fz)
 (h1 : n ≤ cap) (h2 : cap ≤ maxLen) (hsz : ds.length = n * sz) (hcap : cap * sz ≤ cur.size) (hne : ds ≠ []) : OwnT w [.sl n ds] [.slice (some ⟨b, 0, none⟩) n cap] (b :: F) := by
 refine ⟨⟨b :: F, [], ⟨_, cap, rfl, h1, h2, (fun e => by cases e), .inr ⟨hne, b, 0, F, rfl, h.val.row fun j v hj => by simpa using hc j v hj, rfl⟩⟩, rfl, by simp⟩, List.nodup_cons.2 ⟨hb, h.nodup⟩, fun x hx => ?_, ⟨_, cap, rfl, fun h0 => ?_, .inr ⟨b, cur, t, fz, sz, rfl, hh, hsz, hcap, WhR.cells (fun j v hj => by simpa using hc j v hj) h.wh⟩⟩, trivial⟩
 ·rcases List.mem_cons.1 hx with rfl | hx
  ·exact ⟨cur, t, fz, hh, hl⟩
  ·exact h.own x hx
 ·exact absurd (List.eq_nil_of_length_eq_zero (by rw [hsz, h0]; simp)) hne
theorem put_end {b : Nat} {vs vy : List Value} {cur : Array Value} {t : TypeId} {fz : Nat × Nat} (hh : w.heap[b]? = some (.cells cur t fz)) (hc : Cells w b 0 vs) (hl : vs.length + vy.length ≤ cur.size) :
 ∀ w', w.setRow b (cur.toList.take vs.length ++ vy ++ cur.toList.drop (vs.length + vy.length)).toArray = w' → ChL [b] w w' ∧ Cells w' b 0 (vs ++ vy) ∧ (∃ cur', w'.heap[b]? = some (.cells cur' t fz) ∧ cur'.size = cur.size) := by
 intro w' hw
 subst hw
 have hnew := setRow_heap w b cur (cur.toList.take vs.length ++ vy ++ cur.toList.drop (vs.length + vy.length)).toArray t fz hh
 have hsz : (cur.toList.take vs.length ++ vy ++ cur.toList.drop (vs.length + vy.length)).toArray.size = cur.size := by simp; omega
 refine ⟨⟨⟨fun x hx hn => setRow_other w b x _ (by simpa using hn), fun x hx => ?_, rfl, rfl, rfl⟩, by simp, fun x hx hn => setRow_other w b x _ (by simpa using hn)⟩, fun j v hj => ?_, ⟨_, hnew, hsz⟩⟩
 ·obtain ⟨ob, ho, hv⟩ := hx
  by_cases e : x = b
  ·subst e; exact ⟨_, hnew, by simp [Go.Vc.hid]⟩
  ·exact ⟨ob, (setRow_other w b x _ e).trans ho, hv⟩
 ·rw [cell_of_row _ b (0 + j) _ t fz hnew, Nat.zero_add, List.getElem?_toArray]
  by_cases h1 : j < vs.length
  ·rw [List.getElem?_append_left h1] at hj
   have := hc j v hj
   rw [Nat.zero_add, cell_of_row w b j cur t fz hh] at this
   rw [List.getElem?_append_left (by simp; omega), List.getElem?_append_left (by simp; omega), List.getElem?_take_of_lt (by omega), Array.getElem?_toList]
   exact this
  ·rw [List.getElem?_append_right (by omega)] at hj
   have hlt := (List.getElem?_eq_some_iff.1 hj).1
   rw [List.getElem?_append_left (by simp; omega), List.getElem?_append_right (by simp; omega)]
   simp only [List.length_take, Array.length_toList]
   rw [show j - min vs.length cur.size = j - vs.length by omega]; exact hj
theorem box_cells {b : Nat} {cs : List Value} {t : TypeId} (h : w.heap[b]? = some (.cells cs.toArray t (0, 0))) {va r : List Value} (e : cs = va ++ r) : Cells w b 0 va := fun j v hj => by
 rw [Nat.zero_add, cell_of_row w b j cs.toArray t (0, 0) h, List.getElem?_toArray, e, List.getElem?_append_left (List.getElem?_eq_some_iff.1 hj).1]; exact hj
theorem app_go {P : Program} {m : Nat} {d : Option Nat} {T U : TypeId} {a a2 : Option Addr} {n cap cq e sz bytes eu : Nat} {K : K1} {f : Rg} {ds dx : List D} {vx : List Value} {F Fx : List Nat}
 (he : Go.Vc.elemS P T = some (e, sz, bytes)) (hU : P.underlying U = some (.slice eu)) (hz : (Go.Vc.zerosOf P e sz 1).isSome = true) (h0 : 0 < sz)
 (h : OwnT w [.sl n ds] [.slice a n cap] F) (hds : ds.length = n * sz) (hx : OwnT w dx vx Fx) (hdx : dx.length = sz) (hd : ∀ x ∈ F, x ∉ Fx) (hr : Rd w sz a2 1 vx) (h1 : ∀ v ∈ vx, v.oneCell' = true) (hroom : room (n + 1) bytes)
 (hk : ∀ v w' F', OwnT w' [.sl (n + 1) (ds ++ dx)] [v] F' → (∀ x ∈ F', x ∈ F ∨ x ∈ Fx ∨ w.heap.size ≤ x) → ChL F w w' → K (put m f d (.c (.v v))) w') : xAppend P m d T U a n cap a2 1 cq K f w := by
 have hvx : vx.length = sz := by rw [hx.val.length, hdx]
 have hne2 : ds ++ dx ≠ [] := fun e => by
  rw [(List.append_eq_nil_iff.1 e).2] at hdx
  simp at hdx
  omega
 have hlen2 : (ds ++ dx).length = (n + 1) * sz := by rw [List.length_append, hds, hdx, Nat.add_mul, Nat.one_mul]
 unfold xAppend
 rw [he, hU]
 simp only
 by_cases hne : ds = []
 ·subst hne
  have hn : n = 0 := by
   rcases Nat.mul_eq_zero.1 (by simpa using hds.symm) with q | q <;> omega
  subst hn
  obtain ⟨v', e', hc, hw⟩ := h.one
  injection e' with e'
  subst e'
  obtain ⟨a', cap', e', hcap, _⟩ := hw
  injection e' with e1 e2 e3
  subst e1 e3
  have hcap := hcap rfl
  subst hcap
  have hF : F = [] := by
   obtain ⟨_, _, _, _, _, _, hc⟩ := hc
   rcases hc with ⟨_, hc⟩ | ⟨hc, _⟩
   ·exact hc
   ·exact absurd rfl hc
  subst hF
  refine ⟨h0, hz, [], vx, ⟨by simp, .inl rfl⟩, hr, h1, fun hle => by omega, fun _ => ⟨hroom, fun cap' junk b w' hb hl hm hj hw => ?_⟩⟩
  subst hb hw
  have hh : (w.drew.alloc (.cells ([] ++ vx ++ junk).toArray e)).heap[w.heap.size]? = some (.cells ([] ++ vx ++ junk).toArray e (0, 0)) := Go.heap_alloc_new w.drew _
  have g : ChL [] w (w.drew.alloc (.cells ([] ++ vx ++ junk).toArray e)) := Gr.chl (show Gr w _ from ⟨by simp, fun x hx => Go.heap_alloc_old w.drew _ hx, rfl, rfl, rfl⟩) _
  have hb : w.heap.size ∉ Fx := fun hm => Nat.lt_irrefl _ (Go.Cv.vis_lt (hx.own.vis _ hm))
  refine hk _ _ (w.heap.size :: Fx) ((hx.keep g (by simp)).outof (cur := ([] ++ vx ++ junk).toArray) (sz := sz) hb (box_cells hh (va := vx) (r := junk) (by simp)) hh (Lh.zero _) (by omega) hm (by simpa using hlen2) ?_ (by simpa using hne2)) (fun x hm => ?_) g
  ·simp only [List.nil_append, List.size_toArray, List.length_append, hj, hvx]
   rw [show sz + (cap' - (0 + 1)) * sz = (1 + (cap' - (0 + 1))) * sz by rw [Nat.add_mul, Nat.one_mul]]
   exact Nat.mul_le_mul_right _ (by omega)
  ·rcases List.mem_cons.1 hm with rfl | hm
   ·exact .inr (.inr (Nat.le_refl _))
   ·exact .inr (.inl hm)
 ·obtain ⟨b, cap', vs, F', cur, t, fz, sz', e1, rfl, hin, hbn, hc, hh, hl, hnc, hcm, hs', hcap⟩ := h.into hne
  injection e1 with e1 e2 e3
  subst e1 e3
  have hn : 0 < n := by
   rcases Nat.eq_zero_or_pos n with q | q
   ·subst q; exact absurd (List.eq_nil_of_length_eq_zero (by simpa using hds)) hne
   ·exact q
  have hsz : sz' = sz := Nat.eq_of_mul_eq_mul_left hn (by rw [← hs', hds])
  subst hsz
  have hvs : vs.length = n * sz' := by rw [hin.val.length, hds]
  have hdF : ∀ x ∈ F', x ∉ Fx := fun x hx => hd x (by simp [hx])
  have hbx : b ∉ Fx := hd b (by simp)
  have hb2 : b ∉ F' ++ Fx := fun e => (List.mem_append.1 e).elim hbn hbx
  refine ⟨h0, hz, vs, vx, ⟨hvs, .inr ⟨b, 0, rfl, hc⟩⟩, hr, h1, fun hle => ⟨b, cur, t, fz, rfl, hh, hl, ?_, ?_⟩, fun hlt => ⟨hroom, fun cap' junk b' w' hb hl' hm hj hw => ?_⟩⟩
  ·rw [hvx]
   have := Nat.mul_le_mul_right sz' hle
   rw [Nat.add_mul, Nat.one_mul] at this
   omega
  ·have hfit : vs.length + vx.length ≤ cur.size := by
    have := Nat.mul_le_mul_right sz' hle
    rw [Nat.add_mul, Nat.one_mul] at this
    omega
   obtain ⟨g, hc2, cur', hh', hsz2⟩ := put_end hh hc hfit _ rfl
   rw [hvs] at g hc2 hh'
   refine ⟨_, rfl, hk _ _ (b :: (F' ++ Fx)) (((hin.keep g (fun x hx e => hbn (by simpa using (by simpa using e : x = b) ▸ hx))).join (hx.keep g (fun x hx e => hbx ((by simpa using e : x = b) ▸ hx))) hdF).outof hb2 hc2 hh' (by rw [hsz2]; exact hl) hle hcm hlen2 (by rw [hsz2]; exact hcap) hne2) (fun x hm => ?_) (g.mono (by simp))⟩
   rcases List.mem_cons.1 hm with rfl | hm
   ·exact .inl (by simp)
   ·rcases List.mem_append.1 hm with hm | hm
    ·exact .inl (by simp [hm])
    ·exact .inr (.inl hm)
  ·subst hb hw
   have hh2 : (w.drew.alloc (.cells (vs ++ vx ++ junk).toArray e)).heap[w.heap.size]? = some (.cells (vs ++ vx ++ junk).toArray e (0, 0)) := Go.heap_alloc_new w.drew _
   have g : ∀ G, ChL G w (w.drew.alloc (.cells (vs ++ vx ++ junk).toArray e)) := fun G => Gr.chl (show Gr w _ from ⟨by simp, fun x hx => Go.heap_alloc_old w.drew _ hx, rfl, rfl, rfl⟩) _
   have hb : w.heap.size ∉ F' ++ Fx := fun hm => Nat.lt_irrefl _ (Go.Cv.vis_lt ((hin.own.app hx.own).vis _ hm))
   refine hk _ _ (w.heap.size :: (F' ++ Fx)) (((hin.keep (g []) (by simp)).join (hx.keep (g []) (by simp)) hdF).outof (cur := (vs ++ vx ++ junk).toArray) hb (box_cells hh2 (va := vs ++ vx) (r := junk) rfl) hh2 (Lh.zero _) hl' hm hlen2 ?_ hne2) (fun x hm => ?_) (g _)
   ·simp only [List.size_toArray, List.length_append, hj, hvx, hvs]
    rw [← Nat.succ_mul, ← Nat.add_mul]
    exact Nat.mul_le_mul_right _ (by omega)
   ·rcases List.mem_cons.1 hm with rfl | hm
    ·exact .inr (.inr (Nat.le_refl _))
    ·rcases List.mem_append.1 hm with hm | hm
     ·exact .inl (by simp [hm])
     ·exact .inr (.inl hm)
end
end Go.Cx
namespace Go.Cx
open Go Go.RowKit Go.Dv Go.Cv
open Go.Vc (vis vis_of_cell CellF RowF ValsF D okV Cells Chg Grow add_lit0 callable)
section
variable {w w' : World}
def Stk (w : World) (xs : List Value) (v : Value) (F : List Nat) : Prop :=
 ∃ a cap, v = .slice a xs.length cap ∧ xs.length ≤ cap ∧ cap ≤ maxLen ∧
  ((cap = 0 ∧ F = []) ∨ ∃ b cur t fz, a = some ⟨b, 0, none⟩ ∧ F = [b] ∧ w.heap[b]? = some (.cells cur t fz) ∧ Lh cur.size fz ∧ cap ≤ cur.size ∧ ∀ (j : Nat) x, xs[j]? = some x → cur[j]? = some x)
theorem Stk.keep {xs : List Value} {v : Value} {F G : List Nat} (h : Stk w xs v F) (g : ChL G w w') (hd : ∀ x ∈ F, x ∉ G) : Stk w' xs v F := by
 obtain ⟨a, cap, e, h1, h2, h3⟩ := h
 refine ⟨a, cap, e, h1, h2, h3.imp id ?_⟩
 rintro ⟨b, cur, t, fz, e1, e2, hh, hr⟩
 exact ⟨b, cur, t, fz, e1, e2, ChL.at g hh (hd b (by simp [e2])), hr⟩
theorem Stk.lt {xs : List Value} {v : Value} {F : List Nat} (h : Stk w xs v F) : ∀ x ∈ F, x < w.heap.size := by
 obtain ⟨_, _, _, _, _, ⟨_, rfl⟩ | ⟨b, cur, t, fz, _, rfl, hh, _⟩⟩ := h
 ·intro x hx; cases hx
 ·intro x hx
  rw [List.mem_singleton.1 hx]
  exact (Array.getElem?_eq_some_iff.1 hh).1
theorem Stk.nil (w : World) (a : Option Addr) : Stk w [] (.slice a 0 0) [] := ⟨a, 0, rfl, Nat.le_refl _, by simp [maxLen], .inl ⟨rfl, rfl⟩⟩
theorem Stk.get {xs : List Value} {v : Value} {F : List Nat} (h : Stk w xs v F) {k : Nat} (hk : k < xs.length) : ∃ b cap, v = .slice (some ⟨b, 0, none⟩) xs.length cap ∧ w.cell? ⟨b, k, none⟩ = some xs[k] := by
 obtain ⟨a, cap, rfl, h1, _, ⟨h0, _⟩ | ⟨b, cur, t, fz, rfl, _, hh, _, _, hc⟩⟩ := h
 ·omega
 ·refine ⟨b, cap, rfl, ?_⟩
  rw [cell_of_row w b k cur t fz hh]
  exact hc k _ (List.getElem?_eq_getElem hk)
theorem Stk.pop {xs : List Value} {x : Value} {a : Option Addr} {n cap : Nat} {F : List Nat} (h : Stk w (xs ++ [x]) (.slice a n cap) F) : n = xs.length + 1 ∧ n ≤ cap ∧ Stk w xs (sliced a 0 xs.length cap 1) F := by
 obtain ⟨a', cap', e, h1, h2, h3⟩ := h
 injection e with e1 e2 e3
 subst e1 e3
 rw [List.length_append, List.length_singleton] at e2 h1
 refine ⟨e2, by omega, ?_⟩
 rcases h3 with ⟨h0, _⟩ | ⟨b, cur, t, fz, rfl, rfl, hh, hl, hc, hx⟩
 ·omega
 ·have hs : sliced (some ⟨b, 0, none⟩) 0 xs.length cap 1 = .slice (some ⟨b, 0, none⟩) xs.length cap := by
   unfold sliced
   rw [if_neg (by omega)]
   simp [Addr.add_lit]
  rw [hs]
  exact ⟨_, cap, rfl, by omega, h2, .inr ⟨b, cur, t, fz, rfl, rfl, hh, hl, hc, fun j y hj => hx j y (by rw [List.getElem?_append_left (List.getElem?_eq_some_iff.1 hj).1]; exact hj)⟩⟩
theorem Stk.push {P : Program} {m : Nat} {d : Option Nat} {T U : TypeId} {a a2 : Option Addr} {n cap cq e bytes eu : Nat} {K : K1} {f : Rg} {xs : List Value} {x : Value} {F : List Nat}
 (he : Go.Vc.elemS P T = some (e, 1, bytes)) (hU : P.underlying U = some (.slice eu)) (hz : (Go.Vc.zerosOf P e 1 1).isSome = true)
 (h : Stk w xs (.slice a n cap) F) (hr : Rd w 1 a2 1 [x]) (h1 : x.oneCell' = true) (hroom : room (n + 1) bytes)
 (hk : ∀ v w' F', Stk w' (xs ++ [x]) v F' → (∀ y ∈ F', y ∈ F ∨ w.heap.size ≤ y) → ChL F w w' → K (put m f d (.c (.v v))) w') : xAppend P m d T U a n cap a2 1 cq K f w := by
 obtain ⟨a', cap', e', hn, hcm, h3⟩ := h
 injection e' with e1 e2 e3
 subst e1 e2 e3
 unfold xAppend
 rw [he, hU]
 simp only
 have gnew : ∀ G cs, ChL G w (w.drew.alloc (.cells cs e)) := fun G cs => Gr.chl (show Gr w _ from ⟨by simp, fun y hy => Go.heap_alloc_old w.drew _ hy, rfl, rfl, rfl⟩) _
 have grow : ∀ (olds : List Value), olds = xs → ∀ (cap' : Nat) (junk : List Value) (b : Nat) (w' : World), b = w.heap.size → xs.length + 1 ≤ cap' → cap' ≤ maxLen → junk.length = (cap' - (xs.length + 1)) * 1 → w' = w.drew.alloc (.cells (olds ++ [x] ++ junk).toArray e) → Stp K (put m f d (.c (.v (.slice (some ⟨b, 0, none⟩) (xs.length + 1) cap')))) w' := fun olds ho cap' junk b w' hb hl hm hj hw => by
  subst ho hb hw
  have hh : (w.drew.alloc (.cells (olds ++ [x] ++ junk).toArray e)).heap[w.heap.size]? = some (.cells (olds ++ [x] ++ junk).toArray e (0, 0)) := Go.heap_alloc_new w.drew _
  refine hk _ _ [w.heap.size] ⟨some ⟨w.heap.size, 0, none⟩, cap', by simp, by simpa using hl, hm, .inr ⟨_, _, _, _, rfl, rfl, hh, Lh.zero _, ?_, fun j y hj => ?_⟩⟩ (fun y hy => .inr (by rw [List.mem_singleton.1 hy]; exact Nat.le_refl _)) (gnew _ _)
  ·simp only [List.size_toArray, List.length_append, List.length_singleton, hj]; omega
  ·rw [List.getElem?_toArray, List.getElem?_append_left (List.getElem?_eq_some_iff.1 hj).1]; exact hj
 rcases h3 with ⟨h0, rfl⟩ | ⟨b, cur, t, fz, rfl, rfl, hh, hl, hc, hx⟩
 ·have hx0 : xs = [] := List.eq_nil_of_length_eq_zero (by omega)
  subst hx0
  exact ⟨by omega, hz, [], [x], ⟨rfl, .inl rfl⟩, hr, fun v hv => by rw [List.mem_singleton.1 hv]; exact h1, fun hle => by simp only [List.length_nil] at hle; omega, fun _ => ⟨hroom, grow [] rfl⟩⟩
 ·refine ⟨by omega, hz, xs, [x], ⟨by omega, .inr ⟨b, 0, rfl, fun i v hi => ?_⟩⟩, hr, fun v hv => by rw [List.mem_singleton.1 hv]; exact h1, fun hle => ⟨b, cur, t, fz, rfl, hh, hl, by simp only [List.length_singleton]; omega, ?_⟩, fun _ => ⟨hroom, grow xs rfl⟩⟩
  ·rw [cell_of_row w b (0 + i) cur t fz hh, Nat.zero_add]; exact hx i v hi
  ·have hcx : Cells w b 0 xs := fun j v hj => by rw [cell_of_row w b (0 + j) cur t fz hh, Nat.zero_add]; exact hx j v hj
   obtain ⟨g, hc2, cur', hh', hsz2⟩ := put_end (vy := [x]) hh hcx (by simp only [List.length_singleton]; omega) _ rfl
   rw [show xs.length = xs.length * 1 by omega] at g hc2 hh'
   refine ⟨_, rfl, hk _ _ [b] ⟨some ⟨b, 0, none⟩, cap, by simp, by simpa using hle, hcm, .inr ⟨b, cur', t, fz, rfl, rfl, hh', by rw [hsz2]; exact hl, by omega, fun j y hj => ?_⟩⟩ (fun y hy => .inl hy) g⟩
   have := hc2 j y hj
   rw [cell_of_row _ b (0 + j) cur' t fz hh', Nat.zero_add] at this
   exact this
end
end Go.Cx
namespace Go.Cx
open Go Go.RowKit Go.Dv Go.Cv
section
variable {P : Program} {n : Nat} {f : Rg} {w : World} {K : KX}
def sq (P : Program) (n : Nat) (b : Code) (K : KX) : KX
 | .normal => xc P n b K
 | e => K e
def bk (id : Nat) (K : KX) : KX
 | .exit id' => if id' = id then K .normal else K (.exit id')
 | e => K e
theorem x_seq {a b : Code} (h : xc P n a (sq P n b K) f w) : xc P n (.seq a b) K f w := by
 have e : (fun e => match e with | .normal => xc P n b K | e => K e) = sq P n b K := by
  funext e; cases e <;> rfl
 show xc P n a (fun e => match e with | .normal => xc P n b K | e => K e) f w
 rw [e]; exact h
theorem sq_n {b : Code} (h : xc P n b K f w) : sq P n b K .normal f w := h
theorem sq_o {b : Code} {id : Nat} (h : K (.exit id) f w) : sq P n b K (.exit id) f w := h
theorem x_block {id : Nat} {a : Code} (h : xc P n a (bk id K) f w) : xc P n (.block id a) K f w := by
 have e : (fun e => match e with | .exit id' => if id' = id then K .normal else K (.exit id') | e => K e) = bk id K := by
  funext e; cases e <;> rfl
 show xc P n a (fun e => match e with | .exit id' => if id' = id then K .normal else K (.exit id') | e => K e) f w
 rw [e]; exact h
theorem bk_n {id : Nat} (h : K .normal f w) : bk id K .normal f w := h
theorem bk_e {id : Nat} (h : K .normal f w) : bk id K (.exit id) f w := by
 show (if id = id then K .normal else K (.exit id)) f w
 rw [if_pos rfl]; exact h
theorem bk_o {id id' : Nat} (hne : id' ≠ id) (h : K (.exit id') f w) : bk id K (.exit id') f w := by
 show (if id' = id then K .normal else K (.exit id')) f w
 rw [if_neg hne]; exact h
theorem x_cond {x : Operand} {a b : Code} {t : Bool} (hx : ev f x = .c (.v (.bool t))) (h1 : t = true → xc P n a K f w) (h2 : t = false → xc P n b K f w) : xc P n (.cond x a b) K f w := by
 show (match ev f x with | .c (.v (.bool t)) => (t = true → xc P n a K f w) ∧ (t = false → xc P n b K f w) | _ => False)
 rw [hx]
 exact ⟨h1, h2⟩
theorem x_skip (h : K .normal f w) : xc P n .skip K f w := h
theorem x_exit {id : Nat} (h : K (.exit id) f w) : xc P n (.exit id) K f w := h
theorem x_ret {t : Nat} {x : Value} {R : Value → World → Prop} (h : f t = .c (.v x)) (hR : R x w) : xc P n .ret (xEnd P [.tmp t] R) f w := by
 show xRet P [.tmp t] R f w
 simp only [xRet, h]
 exact hR
theorem sq_r {b : Code} (h : xc P n .ret K f w) : xc P n .ret (sq P n b K) f w := h
def gv (ops : Array Oper) (f : Rg) (j : Nat) : S := match Go.Vc.guardSlot ops j with | some g => f g | none => .c .dead
section
variable {ops : Array Oper} {j : Nat} {T : K1 → K1} {Q : K1} {dst : Option Nat} {op : Op} {ty : TypeId} {pos : String} {af : Array Edge}
theorem gv_at {b : Bool} (h : gv ops f j = .c (.v (.bool b))) : ∃ g, Go.Vc.guardSlot ops j = some g ∧ f g = .c (.v (.bool b)) := by
 unfold gv at h
 split at h
 ·exact ⟨_, by assumption, h⟩
 ·cases h
theorem cg_t (h : gv ops f j = .c (.v (.bool true))) : cGuard n ops ⟨dst, op, ty, pos, af, some (j, true)⟩ T Q f w = T Q f w := by
 obtain ⟨g, h1, h2⟩ := gv_at h
 rw [cg1, h1]
 simp [h2]
theorem cg_f (h : gv ops f j = .c (.v (.bool false))) : cGuard n ops ⟨dst, op, ty, pos, af, some (j, false)⟩ T Q f w = T Q f w := by
 obtain ⟨g, h1, h2⟩ := gv_at h
 rw [cg1, h1]
 simp [h2]
theorem cg_tn (h : gv ops f j = .c (.v (.bool false))) : cGuard n ops ⟨dst, op, ty, pos, af, some (j, true)⟩ T Q f w = Q (put n f dst (.c (.v (.tuple #[])))) w := by
 obtain ⟨g, h1, h2⟩ := gv_at h
 rw [cg1, h1]
 simp [h2]
theorem cg_fn (h : gv ops f j = .c (.v (.bool true))) : cGuard n ops ⟨dst, op, ty, pos, af, some (j, false)⟩ T Q f w = Q (put n f dst (.c (.v (.tuple #[])))) w := by
 obtain ⟨g, h1, h2⟩ := gv_at h
 rw [cg1, h1]
 simp [h2]
theorem cg_u {want : Bool} (h : gv ops f j = .c (.v (.tuple #[]))) : cGuard n ops ⟨dst, op, ty, pos, af, some (j, want)⟩ T Q f w = Q (put n f dst (.c (.v (.tuple #[])))) w := by
 unfold gv at h
 split at h
 ·rename_i g h1
  rw [cg1, h1]
  simp only [h]
 ·cases h
end
end
end Go.Cx
