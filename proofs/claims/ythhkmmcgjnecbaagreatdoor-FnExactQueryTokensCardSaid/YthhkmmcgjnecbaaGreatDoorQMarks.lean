/-
  A walk over very values; marks in copies of trees.
  Conditions: none.
-/
import Derived.Test.YthhkmmcgjnecbaaGreatDoorQTextB
set_option linter.unusedVariables false
set_option linter.unusedSimpArgs false
namespace Go.Cv
open Go Go.RowKit Go.Dv
open Go.Vc (zeroC guardSlot run_loadVar_agg vis vis_of_cell CellF RowF ValsF D inN okV callable wp_value wp_skipped tyS TS sizeTS elemS fieldOff fieldOff_spec add_lit0 run_v tyS_one run_loadVar_one underlying_run wp_loop_nat callFunc_run run_alloc_box inN inN_iff Plan dsts dstsOps Cells oneCell_eq)
abbrev K1 := Rg → World → Prop
abbrev KX := Exit → K1
def Rv : S → Value → Prop
  | .c (.v x), y => y = x
  | .c .dead, _ => True
  | .c (.fn g [] []), y => y = .func (.func g) #[] #[]
  | _, _ => False
structure CSim (n : Nat) (f : Rg) (a : Act) : Prop where
  size : a.tmps.size = n
  defers : a.defers = []
  slots : ∀ i, Rv (f i) (a.tmps.getD i undef)
def argsV : List S → Option (List Value)
  | [] => some []
  | .c (.v x) :: r => match argsV r with | some vs => some (x :: vs) | none => none
  | _ :: _ => none
def Stp (K : K1) (f : Rg) (w : World) : Prop := K f w
theorem Stp.go {K : K1} {f : Rg} {w : World} (h : K f w) : Stp K f w := h
def cCall (P : Program) (n : Nat) (d : Option Nat) (g : FuncId) (vs : List Value) (K : K1) : K1 := fun f w =>
  callable P g = true ∧ ∃ R : Value → World → Prop, Calls P g vs.toArray w (fun e w' => ∃ v, e = .returned v ∧ R v w') ∧ ∀ v w', R v w' → Stp K (put n f d (.c (.v v))) w'
def cLoad (P : Program) (n : Nat) (d : Option Nat) (t : TypeId) (ad : Addr) (K : K1) : K1 := fun f w =>
  tyS P t = .one ∧ ∃ v, w.cell? ad = some v ∧ K (put n f d (.c (.v v))) w
def cStore (P : Program) (n : Nat) (d : Option Nat) (t : TypeId) (ad : Addr) (v : Value) (K : K1) : K1 := fun f w =>
  tyS P t = .one ∧ Go.Vc.oneCell v = true ∧ (w.cell? ad).isSome = true ∧ w.frozen? ad = false ∧ ∃ w', w.setCell ad v = w' ∧ Stp K (put n f d (.c .dead)) w'
def cBox (P : Program) (n : Nat) (d : Option Nat) (t : TypeId) (vs : List Value) (K : K1) : K1 := fun f w =>
  ∀ b w', b = w.heap.size → w' = w.alloc (.cells vs.toArray t) → K (put n f d (.c (.v (.pointer (some ⟨b, 0, none⟩))))) w'
def cLoadA (n : Nat) (d : Option Nat) (k b off : Nat) (K : K1) : K1 := fun f w =>
  ∃ vs : List Value, vs.length = k ∧ Cells w b off vs ∧ K (put n f d (.c (.v (.agg vs.toArray)))) w
def cAlloc (n : Nat) (d : Option Nat) (t : TypeId) (z : List Value) (K : K1) : K1 := fun f w =>
  ∀ b w', b = w.heap.size → w' = w.alloc (.cells z.toArray t) → K (put n f d (.c (.v (.pointer (some ⟨b, 0, none⟩))))) w'
def cStoreA (n : Nat) (d : Option Nat) (b : Nat) (vs : List Value) (K : K1) : K1 := fun f w =>
  (∃ cur t fz, w.heap[b]? = some (.cells cur t fz) ∧ Lh cur.size fz ∧ vs.length = cur.size) ∧ (∀ v ∈ vs, v.oneCell' = true) ∧ ∃ w', w.setRow b vs.toArray = w' ∧ Stp K (put n f d (.c .dead)) w'
def cOp (P : Program) (n : Nat) (o : Oper) (K : K1) : K1 := fun f w =>
  match o.op with
  | .move x | .assign x => K (put n f o.dst (ev f x)) w
  | .binOp op t x y _ => (match ev f x, ev f y with
    | .c (.v a), .c (.v b) => dPure P n o.dst (do eqGuard op t x y a b; binOp op t a b) (fun f' _ _ => K f' w) f [] none
    | _, _ => False)
  | .unOp op _ x => (match ev f x with
    | .c (.v a) => dPure P n o.dst (Op.unary op a) (fun f' _ _ => K f' w) f [] none
    | _ => False)
  | .convert s t x => (match ev f x with
    | .c (.v a) => dPure P n o.dst (convert s t a) (fun f' _ _ => K f' w) f [] none
    | _ => False)
  | .extract x i => (match ev f x with
    | .c (.v (.tuple ys)) => ∃ v, ys[i]? = some v ∧ K (put n f o.dst (.c (.v v))) w
    | _ => False)
  | .indexAddr T x i => (match ev f x, ev f i, elemS P T with
    | .c (.v (.slice (some ⟨b, off, none⟩) ln _)), .c (.v (.int _ k)), some (_, sz, _) => 0 ≤ k ∧ k < ln ∧ K (put n f o.dst (.c (.v (.pointer (some ⟨b, off + k.toNat * sz, none⟩))))) w
    | _, _, _ => False)
  | .fieldAddr T x k => (match fieldOff P T k, ev f x with
    | some q, .c (.v (.pointer (some ⟨b, off, none⟩))) => K (put n f o.dst (.c (.v (.pointer (some ⟨b, off + q, none⟩))))) w
    | _, _ => False)
  | .nilCheck x => (match ev f x with
    | .c (.v (.pointer (some ad))) => K (put n f o.dst (.c (.v (.pointer (some ad))))) w
    | _ => False)
  | .load t x => (match ev f x with
    | .c (.v (.pointer (some ⟨b, off, none⟩))) => (match tyS P t with | .agg k => cLoadA n o.dst k b off K f w | _ => cLoad P n o.dst t ⟨b, off, none⟩ K f w)
    | _ => False)
  | .store t x y => (match ev f x, ev f y with
    | .c (.v (.pointer (some ⟨b, 0, none⟩))), .c (.v (.agg xs)) => tyS P t = .agg xs.size ∧ cStoreA n o.dst b xs.toList K f w
    | .c (.v (.pointer (some ⟨b, off, none⟩))), .c (.v v) => cStore P n o.dst t ⟨b, off, none⟩ v K f w
    | _, _ => False)
  | .alloc t => (match zeroD P t with | some z => cAlloc n o.dst t z K f w | none => False)
  | .pick x a b => (match ev f x with
    | .c (.v (.bool t)) => (t = true → K (put n f o.dst (ev f a)) w) ∧ (t = false → K (put n f o.dst (ev f b)) w)
    | _ => False)
  | .box t x => (match ev f x with
    | .c (.v (.agg xs)) => cBox P n o.dst t xs.toList K f w
    | _ => False)
  | .call c => (match c.callee with
    | .value g => (match ev f g, argsV (c.args.toList.map (ev f)) with
      | .c (.fn g [] []), some vs => cCall P n o.dst g vs K f w
      | _, _ => False)
    | .builtin .len => (match c.args.toList.map (ev f), c.argTypes.toList with
      | [.c (.v (.slice ad ln cap))], [T] => Go.Vc.lenK P T = 1 ∧ K (put n f o.dst (.c (.v (.int .i64 ln)))) w
      | _, _ => False)
    | _ => False)
  | _ => False
def cGuard (n : Nat) (ops : Array Oper) (o : Oper) (step : K1 → K1) (K : K1) : K1 := fun f w => match o.guard with
  | none => step K f w
  | some (j, want) => (match guardSlot ops j with
    | some g => (match f g with
      | .c (.v (.bool b)) => (b = want → step K f w) ∧ (b = (!want) → K (put n f o.dst (.c .dead)) w)
      | _ => False)
    | none => False)
def cl (P : Program) (n : Nat) (ops : Array Oper) (K : K1) : List Oper → Rg → World → Prop
  | [], f, w => K f w
  | o :: r, f, w => cGuard n ops o (cOp P n o) (cl P n ops K r) f w
theorem cg0 (n : Nat) (ops : Array Oper) (T : K1 → K1) (Q : K1) (f : Rg) (w : World) (dst : Option Nat) (op : Op) (ty : TypeId) (pos : String) (af : Array Edge) : cGuard n ops ⟨dst, op, ty, pos, af, none⟩ T Q f w = T Q f w := rfl
theorem cg1 (n : Nat) (ops : Array Oper) (T : K1 → K1) (Q : K1) (f : Rg) (w : World) (dst : Option Nat) (op : Op) (ty : TypeId) (pos : String) (af : Array Edge) (j : Nat) (want : Bool) : cGuard n ops ⟨dst, op, ty, pos, af, some (j, want)⟩ T Q f w =
    (match guardSlot ops j with
    | some g => (match f g with
      | .c (.v (.bool b)) => (b = want → T Q f w) ∧ (b = (!want) → Q (put n f dst (.c .dead)) w)
      | _ => False)
    | none => False) := rfl
def cLoop (ws : List Nat) (body : KX → K1) (K : KX) : K1 := fun f w =>
  ∃ (I : Rg → World → Prop) (μ : Rg → World → Nat), I (mixR ws f f) w ∧
    ∀ g w2, I (mixR ws f g) w2 → body (fun e f' w' => match e with
      | .normal => I (mixR ws f f') w' ∧ μ (mixR ws f f') w' < μ (mixR ws f g) w2
      | e => K e f' w') (mixR ws f g) w2
structure Gr (w w' : World) : Prop where
  size : w.heap.size ≤ w'.heap.size
  keep : ∀ b, b < w.heap.size → w'.heap[b]? = w.heap[b]?
  os : w'.os = w.os
  tape : w'.tape = w.tape
  output : w'.output = w.output
def Up (P : Program) (w : World) (s1 s : S) : Prop := ∀ y, Rv s y → RelS P w (fun _ => none) (fun _ => True) s1 y
def cSeg (P : Program) (n : Nat) (ws : List Nat) (dd : KE → K0) (K : KX) : K1 := fun f w =>
  n ≤ 9000 ∧ GlW w (fun _ => False) ∧ ∃ (f1 : Rg) (k : KE), (∀ i, Up P w (f1 i) (f i)) ∧ dd k f1 [] none ∧
    ∀ e f' L' p' w', k e f' L' p' → Gr w w' → K e (fun i => if inN ws i = true then (match f' i with | .c (.v x) => .c (.v x) | _ => .c .dead) else f i) w'
def c (P : Program) (n : Nat) : Code → KX → Rg → World → Prop
  | .skip, K, f, w => K .normal f w
  | .label _, K, f, w => K .normal f w
  | .region _ ops false, K, f, w => cl P n ops (K .normal) ops.toList f w
  | .region id ops true, K, f, w => P.follows .mixedOrders = true ∧ okAll ops = true ∧ cSeg P n (dstsOps ops.toList) (d P n (.region id ops true)) K f w
  | .seq a b, K, f, w => c P n a (fun e => match e with | .normal => c P n b K | e => K e) f w
  | .cond x a b, K, f, w => (match ev f x with
    | .c (.v (.bool t)) => (t = true → c P n a K f w) ∧ (t = false → c P n b K f w)
    | _ => False)
  | .block id a, K, f, w => c P n a (fun e => match e with
    | .exit id' => if id' = id then K .normal else K (.exit id')
    | e => K e) f w
  | .loop a, K, f, w => cLoop (dsts a) (c P n a) K f w
  | .exit id, K, f, w => K (.exit id) f w
  | .ret, K, f, w => K .ret f w
  | _, _, _, _ => False
section
variable {P : Program} {n : Nat} {f : Rg} {a : Act} {w : World} {K : K1} {Ka : Act → World → Prop} {Q : Exit → Act → World → Prop} {ops : Array Oper}
theorem ev_rv (h : CSim n f a) (x : Operand) : Rv (ev f x) (a.eval x) := by
  cases x with
  | tmp t => exact h.slots t
  | const v => rfl
  | global g => rfl
  | func g => rfl
theorem CSim.put (h : CSim n f a) (d : Option Nat) {x : S} {v : Value} (hv : Rv x v) : CSim n (Go.Dv.put n f d x) (a.put d v) where
  size := by rw [Go.Vc.Act.size_put]; exact h.size
  defers := by rw [Go.Vc.Act.defers_put]; exact h.defers
  slots := fun i => by
    cases d with
    | none => exact h.slots i
    | some d =>
      rw [Go.Vc.getD_put h.size]
      simp only [Go.Dv.put]
      by_cases hd : d < n
      · simp only [hd, if_true, upd]
        by_cases hi : i = d
        · simp [hi, hv]
        · simp only [hi, false_and, if_false]; exact h.slots i
      · simp only [hd, if_false, and_false]; exact h.slots i
theorem argsV_spec : ∀ {xs : List Operand} {vs : List Value}, CSim n f a → argsV (xs.map (ev f)) = some vs → xs.map a.eval = vs
  | [], vs, _, h => by simp [argsV] at h; simp [h]
  | x :: r, vs, hs, h => by
    have hx := ev_rv hs x
    simp only [List.map_cons] at h ⊢
    unfold argsV at h
    split at h
    · rename_i e; simp at e
    · rename_i z r' e
      injection e with e1 e2
      subst e2
      rw [e1] at hx
      split at h
      · rename_i vs' hr
        injection h with h
        subst h
        rw [argsV_spec hs hr]; exact congrArg (· :: vs') hx
      · cases h
    · cases h
theorem kp_put (a : Act) (d : Option Nat) (v : Value) : ∀ j, j ∉ d.toList → (a.put d v).tmps.getD j undef = a.tmps.getD j undef := (keep_put (β := fun _ => none) a d v).tmps
theorem cPure_sound {o : Oper} {s : Sem Value} (hs : CSim n f a) (hr : ∀ w, (execOp a.eval o).run P w = ((do pure (Next.value (← s)) : Sem Next).run P w))
    (h : dPure P n o.dst s (fun f' _ _ => K f' w) f [] none) (hK : ∀ f' a' w', CSim n f' a' → (∀ j, j ∉ o.dst.toList → a'.tmps.getD j undef = a.tmps.getD j undef) → K f' w' → Ka a' w') : o.wp P a w Ka Q := by
  obtain ⟨v, hv, _, hk⟩ := h
  exact wp_value (v := v) (w' := w) (by rw [hr]; exact run_v (hv w)) (hK _ _ _ (hs.put o.dst (x := .c (.v v)) rfl) (kp_put _ _ _) hk)
theorem cOp_keep {o : Oper} (hs : CSim n f a) (h : cOp P n o K f w) (hK : ∀ f' a' w', CSim n f' a' → (∀ j, j ∉ o.dst.toList → a'.tmps.getD j undef = a.tmps.getD j undef) → K f' w' → Ka a' w') : o.wp P a w Ka Q := by
  unfold cOp at h
  split at h
  · rename_i x ho
    exact wp_value (v := a.eval x) (w' := w) (by simp [execOp, ho]) (hK _ _ _ (hs.put o.dst (ev_rv hs x)) (kp_put _ _ _) h)
  · rename_i x ho
    exact wp_value (v := a.eval x) (w' := w) (by simp [execOp, ho]) (hK _ _ _ (hs.put o.dst (ev_rv hs x)) (kp_put _ _ _) h)
  · rename_i op t x y pos ho
    have hx := ev_rv hs x
    have hy := ev_rv hs y
    split at h
    · rename_i u v e1 e2
      rw [e1] at hx; rw [e2] at hy
      have hx : a.eval x = u := hx
      have hy : a.eval y = v := hy
      exact cPure_sound hs (fun w' => by simp [execOp, ho, hx, hy]) h hK
    · exact h.elim
  · rename_i op pos x ho
    have hx := ev_rv hs x
    split at h
    · rename_i u e1
      rw [e1] at hx
      have hx : a.eval x = u := hx
      exact cPure_sound hs (fun w' => by simp [execOp, ho, hx]) h hK
    · exact h.elim
  · rename_i s t x ho
    have hx := ev_rv hs x
    split at h
    · rename_i u e1
      rw [e1] at hx
      have hx : a.eval x = u := hx
      exact cPure_sound hs (fun w' => by simp [execOp, ho, hx]) h hK
    · exact h.elim
  · rename_i x i ho
    have hx := ev_rv hs x
    split at h
    · rename_i ys e1
      rw [e1] at hx
      have hx : a.eval x = .tuple ys := hx
      obtain ⟨v, hv, hk⟩ := h
      exact wp_value (v := v) (w' := w) (by simp [execOp, ho, hx, Instr.extract, hv]) (hK _ _ _ (hs.put o.dst (x := .c (.v v)) rfl) (kp_put _ _ _) hk)
    · exact h.elim
  · rename_i T x i ho
    have hx := ev_rv hs x
    have hi := ev_rv hs i
    split at h
    · rename_i b off ln cp kk k e sz by' e1 e2 hel
      rw [e1] at hx; rw [e2] at hi
      have hx : a.eval x = _ := hx
      have hi : a.eval i = _ := hi
      obtain ⟨h0, h1, h⟩ := h
      obtain ⟨hu, inf, hinf, hsz, _⟩ := Go.Vc.elemS_spec hel
      have hrun : (execOp a.eval o).run P w = .ok (.value (.pointer (some (Addr.add ⟨b, off, none⟩ (k.toNat * sz))))) w := by
        simp [execOp, ho, Instr.indexAt, hi, asIntOf, underlying_run hu, hx, h0, h1, sizeOf, typeInfo, hinf, hsz]
      rw [add_lit0] at hrun
      exact wp_value hrun (hK _ _ _ (hs.put o.dst (x := .c (.v _)) rfl) (kp_put _ _ _) h)
    · exact h.elim
  · rename_i T x k ho
    have hx := ev_rv hs x
    split at h
    · rename_i q b off hq e1
      rw [e1] at hx
      have hx : a.eval x = _ := hx
      have := fieldOff_spec hq ⟨b, off, none⟩ w
      rw [add_lit0] at this
      exact wp_value (v := .pointer (some ⟨b, off + q, none⟩)) (w' := w) (by simp only [execOp, ho, hx]; exact run_v this) (hK _ _ _ (hs.put o.dst (x := .c (.v _)) rfl) (kp_put _ _ _) h)
    · exact h.elim
  · rename_i x ho
    have hx := ev_rv hs x
    split at h
    · rename_i ad e1
      rw [e1] at hx
      have hx : a.eval x = _ := hx
      exact wp_value (v := .pointer (some ad)) (w' := w) (by simp [execOp, ho, hx]) (hK _ _ _ (hs.put o.dst (x := .c (.v _)) rfl) (kp_put _ _ _) h)
    · exact h.elim
  · rename_i t x ho
    have hx := ev_rv hs x
    split at h
    · rename_i b off e1
      rw [e1] at hx
      have hx : a.eval x = _ := hx
      split at h
      · rename_i k ht
        obtain ⟨vs, hl, hc, hk⟩ := h
        have hl := run_loadVar_agg (P := P) (w := w) ht (ad := ⟨b, off, none⟩) (vs := vs) hl (fun j v hj => by rw [add_lit0]; exact hc j v hj)
        exact wp_value (v := .agg vs.toArray) (w' := w) (by simp [execOp, ho, Instr.loadAt, Instr.sureAddr, hx, hl]) (hK _ _ _ (hs.put o.dst (x := .c (.v _)) rfl) (kp_put _ _ _) hk)
      · obtain ⟨ht, v, hv, hk⟩ := h
        have hl := run_loadVar_one (P := P) (w := w) ht (ad := ⟨b, off, none⟩) (v := v) hv
        exact wp_value (v := v) (w' := w) (by simp [execOp, ho, Instr.loadAt, Instr.sureAddr, hx, hl]) (hK _ _ _ (hs.put o.dst (x := .c (.v v)) rfl) (kp_put _ _ _) hk)
    · exact h.elim
  · rename_i t x y ho
    have hx := ev_rv hs x
    have hy := ev_rv hs y
    split at h
    · rename_i b xs e1 e2
      rw [e1] at hx; rw [e2] at hy
      have hx : a.eval x = _ := hx
      have hy : a.eval y = .agg xs := hy
      obtain ⟨ht, ⟨cur, tt, fz, hh, hlh, hlen⟩, hone, _, rfl, hk⟩ := h
      have hst := run_storeCells_lh P b 0 tt fz xs.toList 0 cur w hh hlh (by omega) hone
      have e : (cur.toList.take (0 + 0) ++ xs.toList ++ cur.toList.drop (0 + 0 + xs.toList.length)).toArray = xs.toList.toArray := by
        rw [List.drop_eq_nil_of_le (by rw [hlen]; simp)]; simp
      rw [e] at hst
      exact wp_skipped (Go.Vc.store_run (w' := w.setRow b xs.toList.toArray) ho hx (by rw [hy, ht]; simp [Value.cells, Go.Vc.sizeTS]) (by rw [ht]; simp) (by rw [hy]; simpa [Value.cells] using hst)) (hK _ _ _ (hs.put o.dst (x := .c .dead) trivial) (kp_put _ _ _) hk)
    · rename_i b off v _ e1 e2
      rw [e1] at hx; rw [e2] at hy
      have hx : a.eval x = _ := hx
      have hy : a.eval y = v := hy
      obtain ⟨ht, h1, hc, hf, _, rfl, hk⟩ := h
      have hsz : v.cells.size = 1 := by cases v <;> first | rfl | cases h1
      have hcl : v.cells.toList = [v] := by cases v <;> first | rfl | cases h1
      have hst : (storeCells ⟨b, off, none⟩ [v]).run P w = .ok () (w.setCell ⟨b, off, none⟩ v) := by
        have := Go.Vc.run_storeCells_mem (P := P) [v] ⟨b, off, none⟩ 0 w rfl (by simpa using h1) (fun j hj => by
          obtain rfl : j = 0 := by simpa using hj
          simpa [add_lit0] using ⟨hc, hf⟩)
        simpa [Go.Vc.setCells, add_lit0] using this
      exact wp_skipped (Go.Vc.store_run (w' := w.setCell ⟨b, off, none⟩ v) ho hx (by rw [hy, hsz, ht]; rfl) (by rw [ht]; simp) (by rw [hy, hcl]; exact hst)) (hK _ _ _ (hs.put o.dst (x := .c .dead) trivial) (kp_put _ _ _) hk)
    · exact h.elim
  · rename_i t ho
    split at h
    · rename_i z hz
      obtain ⟨v, hv, hc⟩ := Go.Vc.zeroC_run (zeroD_spec hz).1 w
      refine wp_value (v := .pointer (some ⟨w.heap.size, 0, none⟩)) (w' := w.alloc (.cells z.toArray t)) ?_ (hK _ _ _ (hs.put o.dst (x := .c (.v _)) rfl) (kp_put _ _ _) (h _ _ rfl rfl))
      rw [← hc]
      simp [execOp, ho, Instr.alloc, hv, run_alloc_box]
    · exact h.elim
  · rename_i x u v ho
    have hx := ev_rv hs x
    split at h
    · rename_i t e1
      rw [e1] at hx
      have hx : a.eval x = .bool t := hx
      cases t with
      | true => exact wp_value (v := a.eval u) (w' := w) (by simp [execOp, ho, hx, asBool]) (hK _ _ _ (hs.put o.dst (ev_rv hs u)) (kp_put _ _ _) (h.1 rfl))
      | false => exact wp_value (v := a.eval v) (w' := w) (by simp [execOp, ho, hx, asBool]) (hK _ _ _ (hs.put o.dst (ev_rv hs v)) (kp_put _ _ _) (h.2 rfl))
    · exact h.elim
  · rename_i t x ho
    have hx := ev_rv hs x
    split at h
    · rename_i xs e1
      rw [e1] at hx
      have hx : a.eval x = .agg xs := hx
      refine wp_value (v := .pointer (some ⟨w.heap.size, 0, none⟩)) (w' := w.alloc (.cells xs.toList.toArray t)) ?_ (hK _ _ _ (hs.put o.dst (x := .c (.v _)) rfl) (kp_put _ _ _) (h _ _ rfl rfl))
      simp [execOp, ho, hx, Instr.box, run_alloc_box, Value.cells]
    · exact h.elim
  · rename_i cc ho
    split at h
    · rename_i g hg
      split at h
      · rename_i gid vs e1 e2
        obtain ⟨hcl, R, hR, hk⟩ := h
        have hge : a.eval g = .func (.func gid) #[] #[] := by have := ev_rv hs g; rw [e1] at this; exact this
        have hargs := argsV_spec hs e2
        have hrun : (execOp a.eval o).run P w = .ok (.enter gid vs.toArray) w := by
          have he : cc.args.map a.eval = vs.toArray := by rw [← hargs, ← Array.toList_map]
          simp [execOp, ho, resolve, hg, hge, Deferred.ofValue, invoke, callFunc_run hcl, he]
        unfold Oper.wp
        rw [hrun, Oper.upon_enter]
        refine hR.mono ?_
        rintro e w' ⟨v, rfl, hv⟩
        exact hK _ _ _ (hs.put o.dst (x := .c (.v v)) rfl) (kp_put _ _ _) (hk v w' hv)
      · exact h.elim
    · rename_i hg
      split at h
      · rename_i ad ln cap T e1 e2
        obtain ⟨hT, hk⟩ := h
        obtain ⟨x, hx, hev⟩ := Go.Vc.map1 e1
        have ha := Go.Vc.arr1 hx
        have ht := Go.Vc.arr1 e2
        have hr := ev_rv hs x
        rw [hev] at hr
        have hr : a.eval x = _ := hr
        have hu : ∃ e, P.underlying T = some (.slice e) := by
          unfold Go.Vc.lenK at hT
          split at hT
          · rename_i e he; exact ⟨e, he⟩
          · cases hT
          · cases hT
        exact wp_value (v := .int .i64 ln) (w' := w) (Go.Vc.len_run ho hg ha ht (.inl ⟨_, _, _, hr, rfl, hu⟩)) (hK _ _ _ (hs.put o.dst (x := .c (.v _)) rfl) (kp_put _ _ _) hk)
      · exact h.elim
    · exact h.elim
  · exact h.elim
def Kp (ws : List Nat) (a a' : Act) : Prop := ∀ j, j ∉ ws → a'.tmps.getD j undef = a.tmps.getD j undef
theorem Kp.refl (ws : List Nat) (a : Act) : Kp ws a a := fun _ _ => rfl
theorem Kp.trans {ws : List Nat} {a b c : Act} (h : Kp ws a b) (k : Kp ws b c) : Kp ws a c := fun j hj => (k j hj).trans (h j hj)
theorem Kp.mono {ws us : List Nat} {a b : Act} (h : Kp ws a b) (k : ∀ j ∈ ws, j ∈ us) : Kp us a b := fun j hj => h j fun e => hj (k j e)
theorem cl_sound : ∀ (l : List Oper) {f : Rg} {a : Act} {w : World}, CSim n f a → cl P n ops K l f w → (∀ f' a' w', CSim n f' a' → Kp (dstsOps l) a a' → K f' w' → Q .normal a' w') → wpList P ops Q l a w
  | [], _, _, _, hs, h, hK => hK _ _ _ hs (Kp.refl _ _) h
  | o :: r, f, a, w, hs, h, hK => by
    have step : ∀ {f' a' w'}, CSim n f' a' → (∀ j, j ∉ o.dst.toList → a'.tmps.getD j undef = a.tmps.getD j undef) → cl P n ops K r f' w' → wpList P ops Q r a' w' := fun hs' hk h' => cl_sound r hs' h' fun f'' a'' w'' hs'' hk'' h'' => hK _ _ _ hs'' (by
      have hd : dstsOps (o :: r) = o.dst.toList ++ dstsOps r := by simp only [dstsOps]; cases o.dst <;> rfl
      rw [hd]
      exact (Kp.mono (ws := o.dst.toList) hk fun j hj => by simp [hj]).trans (hk''.mono fun j hj => by simp [hj])) h''
    have h : cGuard n ops o (cOp P n o) (cl P n ops K r) f w := h
    unfold cGuard at h
    unfold wpList
    split at h
    · rename_i hg
      rw [if_pos (by simp [Region.wanted, hg])]
      exact .inl (cOp_keep hs h fun f' a' w' hs' hk h' => step hs' hk h')
    · rename_i j want hg
      split at h
      · rename_i g hgs
        have hslot := hs.slots g
        split at h
        · rename_i b hb
          rw [hb] at hslot
          have hslot : a.tmps.getD g undef = .bool b := hslot
          have hy : yielded ops a.tmps j = some b := by
            unfold guardSlot at hgs
            simp only [yielded, hgs, Option.bind_some]
            have : a.tmps[g]? = some (.bool b) := by
              rw [Array.getD_eq_getD_getElem?] at hslot
              cases hq : a.tmps[g]? with
              | none => simp [hq, undef] at hslot
              | some q => simp [hq] at hslot; rw [hslot]
            rw [this]
          by_cases hbw : b = want
          · subst hbw
            rw [if_pos (by simp [Region.wanted, hg, hy])]
            exact .inl (cOp_keep hs (h.1 rfl) fun f' a' w' hs' hk h' => step hs' hk h')
          · have hbn : b = !want := by cases b <;> cases want <;> simp_all
            subst hbn
            rw [if_neg (by simp [Region.wanted, hg, hy])]
            exact step (hs.put o.dst (x := .c .dead) trivial) (kp_put _ _ _) (h.2 rfl)
        · exact h.elim
      · exact h.elim
theorem rv_kS {ws : List Nat} {s : S} {y : Value} (h : Rv s y) : Rv (kS ws [] s) y := by
  cases s with
  | c x =>
    cases x with
    | fn g p q => cases p <;> cases q <;> simp_all [Rv, kS, kC, hitL]
    | _ => simp_all [Rv, kS, kC]
  | ag cs => exact h.elim
  | tu xs => exact h.elim
theorem seg_sound {ws : List Nat} {cd : Code} {K : KX} (hm : P.follows .mixedOrders = true) (hok : okCode cd = true) (hws : dsts cd = ws) (hs : CSim n f a) (h : cSeg P n ws (d P n cd) K f w)
    {Q : Exit → Act → World → Prop} (hK : ∀ e f' a' w', CSim n f' a' → Kp ws a a' → K e f' w' → Q e a' w') : cd.wp P Q a w := by
  subst hws
  obtain ⟨hn, hg, f1, k, hup, hd, hk⟩ := h
  have hno : ∀ β b, ¬ ownB [] β b := fun β b ⟨i, o, h1, _⟩ => by cases h1
  have hs0 : Sim P n w (fun _ => True) (fun _ => False) (fun _ => none) f1 [] none a w := by
    refine ⟨hs.size, hs.defers, fun i => ?_, (fun i o h => by cases h), (fun i j o o' b h => by cases h), fun b h => (hno _ b h).elim, ⟨fun _ h => h.elim, hg⟩, fun _ _ _ => rfl, Wd.refl _, ⟨rfl, rfl, rfl⟩, (fun ps h => by cases h)⟩
    exact ((hup i) _ (hs.slots i)).st (stab_mono fun b _ => ⟨hno _ b, fun _ => trivial⟩)
  refine d_sound hm hn cd hok hs0 hd fun e β' f' L' p' a' w' hs' hkp ht h' => ?_
  refine hK e _ a' w' ⟨hs'.size, hs'.defers, fun i => ?_⟩ hkp.tmps (hk e f' L' p' w' h' ⟨ht.size, fun b hb => ht.keep b hb (hno _ b), hs'.outer.1, hs'.outer.2.1, hs'.outer.2.2⟩)
  by_cases hi : inN (dsts cd) i = true
  · simp only [hi, if_true]
    have := hs'.slots i
    split
    · rename_i x hx; rw [hx] at this; exact this.1
    · trivial
  · simp only [hi]
    rw [hkp.tmps i fun e => hi (Go.Vc.inN_iff.2 e)]
    exact hs.slots i
theorem c_sound : ∀ (x : Code) {K : KX} {Q : Exit → Act → World → Prop} {f : Rg} {a : Act} {w : World}, CSim n f a → c P n x K f w →
    (∀ e f' a' w', CSim n f' a' → Kp (dsts x) a a' → K e f' w' → Q e a' w') → x.wp P Q a w
  | .skip, K, Q, f, a, w, hs, h, hK => wp_skip (hK _ _ _ _ hs (Kp.refl _ _) h)
  | .label _, K, Q, f, a, w, hs, h, hK => wp_label (hK _ _ _ _ hs (Kp.refl _ _) h)
  | .exit _, K, Q, f, a, w, hs, h, hK => wp_exit (hK _ _ _ _ hs (Kp.refl _ _) h)
  | .ret, K, Q, f, a, w, hs, h, hK => wp_ret (hK _ _ _ _ hs (Kp.refl _ _) h)
  | .region id ops false, K, Q, f, a, w, hs, h, hK => wp_region_list (cl_sound ops.toList hs h fun _ _ _ hs' hk h' => hK _ _ _ _ hs' hk h')
  | .region id ops true, K, Q, f, a, w, hs, h, hK => seg_sound h.1 (by simpa [okCode] using h.2.1) rfl hs h.2.2 hK
  | .seq x y, K, Q, f, a, w, hs, h, hK => by
    refine wp_seq (c_sound x hs h fun e f' a' w' hs' hk h' => ?_)
    have hk1 : Kp (dsts (.seq x y)) a a' := hk.mono fun j hj => by simp [dsts, hj]
    cases e with
    | normal => exact c_sound y hs' h' fun e f'' a'' w'' hs'' hk'' h'' => hK _ _ _ _ hs'' (hk1.trans (hk''.mono fun j hj => by simp [dsts, hj])) h''
    | exit id => exact hK _ _ _ _ hs' hk1 h'
    | goto l => exact hK _ _ _ _ hs' hk1 h'
    | ret => exact hK _ _ _ _ hs' hk1 h'
    | panic ch => exact hK _ _ _ _ hs' hk1 h'
    | outgrown => exact hK _ _ _ _ hs' hk1 h'
  | .cond x p q, K, Q, f, a, w, hs, h, hK => by
    have hc := ev_rv hs x
    unfold c at h
    split at h
    · rename_i t hev
      rw [hev] at hc
      refine wp_cond_split (t := t) hc (fun ht => ?_) (fun ht => ?_)
      · exact c_sound p hs (h.1 ht) fun e f' a' w' hs' hk h' => hK _ _ _ _ hs' (hk.mono fun j hj => by simp [dsts, hj]) h'
      · exact c_sound q hs (h.2 ht) fun e f' a' w' hs' hk h' => hK _ _ _ _ hs' (hk.mono fun j hj => by simp [dsts, hj]) h'
    · exact h.elim
  | .block id x, K, Q, f, a, w, hs, h, hK => by
    refine wp_block (c_sound x hs h fun e f' a' w' hs' hk h' => ?_)
    have hk1 : Kp (dsts (.block id x)) a a' := hk
    cases e with
    | exit id' =>
      simp only [Exit.inBlock]
      by_cases hid : id' = id
      · simp only [hid, if_true] at h' ⊢; exact hK _ _ _ _ hs' hk1 h'
      · simp only [hid, if_false] at h' ⊢; exact hK _ _ _ _ hs' hk1 h'
    | normal => exact hK _ _ _ _ hs' hk1 h'
    | goto l => exact hK _ _ _ _ hs' hk1 h'
    | ret => exact hK _ _ _ _ hs' hk1 h'
    | panic ch => exact hK _ _ _ _ hs' hk1 h'
    | outgrown => exact hK _ _ _ _ hs' hk1 h'
  | .loop x, K, Q, f, a, w, hs, h, hK => by
    obtain ⟨I, μ, h0, hround⟩ := h
    have mix : ∀ {f' : Rg} {a' : Act}, CSim n f' a' → Kp (dsts x) a a' → CSim n (mixR (dsts x) f f') a' := fun {f' a'} hs' hk => ⟨hs'.size, hs'.defers, fun i => by
      simp only [mixR]
      split
      · exact hs'.slots i
      · rename_i hi
        rw [hk i fun e => hi (Go.Vc.inN_iff.2 e)]
        exact rv_kS (hs.slots i)⟩
    refine wp_loop_nat (P := P) (k₀ := μ (mixR (dsts x) f f) w) (fun k a' w' => ∃ g, CSim n (mixR (dsts x) f g) a' ∧ Kp (dsts x) a a' ∧ I (mixR (dsts x) f g) w' ∧ k = μ (mixR (dsts x) f g) w') ?_ ⟨f, mix hs (Kp.refl _ _), Kp.refl _ _, h0, rfl⟩
    rintro k a' w' ⟨g, hs2, hk2, hI, rfl⟩
    refine c_sound x hs2 (hround g w' hI) fun e f'' a'' w'' hs'' hk'' h'' => ?_
    have hk3 := hk2.trans hk''
    have hk4 : Kp (dsts (.loop x)) a a'' := hk3
    cases e with
    | normal => exact ⟨_, h''.2, f'', mix hs'' hk3, hk3, h''.1, rfl⟩
    | exit id => exact hK _ _ _ _ hs'' hk4 h''
    | goto l => exact hK _ _ _ _ hs'' hk4 h''
    | ret => exact hK _ _ _ _ hs'' hk4 h''
    | panic ch => exact hK _ _ _ _ hs'' hk4 h''
    | outgrown => exact hK _ _ _ _ hs'' hk4 h''
  | .rangeFunc _ _ _ _, K, Q, f, a, w, _, h, _ => h.elim
  | .scope _, K, Q, f, a, w, _, h, _ => h.elim
  | .goto _, K, Q, f, a, w, _, h, _ => h.elim
  | .refuse _, K, Q, f, a, w, _, h, _ => h.elim
def cRet (rs : List ResultVar) (R : Value → World → Prop) : K1 := fun f w => match rs with
  | [.tmp t] => (match f t with | .c (.v x) => R x w | _ => False)
  | _ => False
def cEnd (rs : List ResultVar) (R : Value → World → Prop) : KX
  | .normal | .ret => cRet rs R
  | _ => fun _ _ => False
def regsV : List Value → Rg
  | [] => fun _ => .c .dead
  | v :: vs => fun i => match i with | 0 => .c (.v v) | i + 1 => regsV vs i
theorem regsV_rv (k : Nat) : ∀ (vs : List Value) (i : Nat), Rv (regsV vs i) ((vs ++ List.replicate k undef)[i]?.getD undef)
  | [], _ => trivial
  | v :: vs, 0 => rfl
  | v :: vs, i + 1 => by simpa [regsV] using regsV_rv k vs i
theorem calls_of_c {fi : FuncId} {fn : Func} {cd : Code} {vs : List Value} {R : Value → World → Prop} (hf : P.funcs[fi]? = some fn) (hb : fn.body = some cd) (hl : vs.length ≤ fn.ntmps)
    (h : c P fn.ntmps cd (cEnd fn.results.toList R) (regsV vs) w) : Calls P fi vs.toArray w (fun e w' => ∃ v, e = .returned v ∧ R v w') := by
  refine calls_of_wp hf hb ?_
  refine c_sound cd ⟨by simp; omega, rfl, fun i => ?_⟩ h fun e f' a' w' hs' _ h' => ?_
  · have := regsV_rv (fn.ntmps - vs.length) vs i
    have e : (vs.toArray ++ Array.replicate (fn.ntmps - vs.toArray.size) undef)[i]? = (vs ++ List.replicate (fn.ntmps - vs.length) undef)[i]? := by
      rw [← Array.getElem?_toList]; simp
    simp only [Array.getD_eq_getD_getElem?, e]; exact this
  · have fin : cRet fn.results.toList R f' w' → a'.defers = [] ∧ ∃ v, (results fn a'.tmps).run P w' = .ok v w' ∧ ∃ u, Ending.returned v = .returned u ∧ R u w' := by
      intro h'
      unfold cRet at h'
      split at h'
      · rename_i t hrs
        have hslot := hs'.slots t
        split at h'
        · rename_i x hx
          rw [hx] at hslot
          refine ⟨hs'.defers, x, ?_, x, rfl, h'⟩
          have := Go.Vc.results_run (fn := fn) (a := a') (vs := [x]) (w := w') (P := P) (by rw [hrs]; simp only [List.mapM_cons, List.mapM_nil, Sem.run_bind, Go.Vc.resV, Sem.run_pure, Result.andThen_ok]; rw [show a'.tmps.getD t undef = x from hslot])
          exact this
        · exact h'.elim
      · exact h'.elim
    cases e with
    | normal => exact fin h'
    | ret => exact fin h'
    | exit id => exact h'.elim
    | goto l => exact h'.elim
    | panic ch => exact h'.elim
    | outgrown => exact h'.elim
end
end Go.Cv
namespace Go.Cv
open Go Go.RowKit Go.Dv
open Go.Vc (vis vis_of_cell CellF RowF ValsF D okV Cells Chg Grow setCells add_lit0)
theorem Gr.trans {a b c : World} (h : Gr a b) (k : Gr b c) : Gr a c :=
  ⟨Nat.le_trans h.size k.size, fun i hi => (k.keep i (Nat.lt_of_lt_of_le hi h.size)).trans (h.keep i hi), k.os.trans h.os, k.tape.trans h.tape, k.output.trans h.output⟩
theorem vis_lt {w : World} {b : Nat} (h : Go.Vc.vis w b) : b < w.heap.size := by
  obtain ⟨o, ho, _⟩ := h
  exact (Array.getElem?_eq_some_iff.1 ho).1
theorem Gr.grow {w w' : World} (h : Gr w w') : Grow w w' := ⟨fun b hb => h.keep b (vis_lt hb), h.os, h.tape, h.output⟩
structure ChL (F : List Nat) (w w' : World) : Prop where
  chg : Chg F w w'
  size : w.heap.size ≤ w'.heap.size
  keep : ∀ b, b < w.heap.size → b ∉ F → w'.heap[b]? = w.heap[b]?
theorem ChL.store {w : World} {b o : Nat} {v : Value} : ChL [b] w (w.setCell ⟨b, o, none⟩ v) := ⟨Chg.store, by rw [World.size_setCell]; exact Nat.le_refl _, fun x _ hx => Go.heap_setCell_other w ⟨b, o, none⟩ x v (by simpa using hx)⟩
theorem ChL.refl (F : List Nat) (w : World) : ChL F w w := ⟨Chg.refl _ _, Nat.le_refl _, fun _ _ _ => rfl⟩
theorem ChL.trans {F : List Nat} {a b c : World} (h : ChL F a b) (k : ChL F b c) : ChL F a c :=
  ⟨h.chg.trans k.chg, Nat.le_trans h.size k.size, fun x hx hn => (k.keep x (Nat.lt_of_lt_of_le hx h.size) hn).trans (h.keep x hx hn)⟩
theorem ChL.mono {F G : List Nat} {a b : World} (h : ChL F a b) (hs : ∀ x ∈ F, x ∈ G) : ChL G a b := ⟨h.chg.mono hs, h.size, fun x hx hn => h.keep x hx fun e => hn (hs x e)⟩
theorem Gr.chl {a b : World} (h : Gr a b) (F : List Nat) : ChL F a b := ⟨h.grow.chg F, h.size, fun x hx _ => h.keep x hx⟩
theorem Gr.chl_trans {w a b : World} {F : List Nat} (h : Gr w a) (k : ChL F a b) (hf : ∀ x ∈ F, w.heap.size ≤ x) : Gr w b :=
  ⟨Nat.le_trans h.size k.size, fun x hx => (k.keep x (Nat.lt_of_lt_of_le hx h.size) fun e => by have := hf x e; omega).trans (h.keep x hx), k.chg.os.trans h.os, k.chg.tape.trans h.tape, k.chg.output.trans h.output⟩
def OwnL (m : World) (F : List Nat) : Prop := ∀ b ∈ F, ∃ cs t lh, m.heap[b]? = some (.cells cs t lh) ∧ Lh cs.size lh
theorem OwnL.nil (m : World) : OwnL m [] := fun _ h => by cases h
theorem vis_of_ownL {m : World} {b : Nat} (h : ∃ cs t lh, m.heap[b]? = some (.cells cs t lh) ∧ Lh cs.size lh) : vis m b := by
  obtain ⟨cs, t, lh, h, _⟩ := h; exact ⟨_, h, by simp [Go.Vc.hid]⟩
theorem OwnL.vis {m : World} {F : List Nat} (h : OwnL m F) : ∀ b ∈ F, Go.Vc.vis m b := fun b hb => vis_of_ownL (h b hb)
theorem OwnL.grow {m m' : World} (g : Grow m m') {F : List Nat} (h : OwnL m F) : OwnL m' F := fun b hb => by
  have hv := h.vis b hb
  obtain ⟨cs, t, lh, e, hl⟩ := h b hb
  exact ⟨cs, t, lh, (g.blocks b hv).trans e, hl⟩
theorem OwnL.app {m : World} {F G : List Nat} (h : OwnL m F) (k : OwnL m G) : OwnL m (F ++ G) := fun b hb => (List.mem_append.1 hb).elim (h b) (k b)
theorem OwnL.frozen {m : World} {F : List Nat} (h : OwnL m F) {b o : Nat} (hb : b ∈ F) (hc : (m.cell? ⟨b, o, none⟩).isSome = true) : m.frozen? ⟨b, o, none⟩ = false := by
  obtain ⟨cs, t, ⟨lo, hi⟩, e, hl⟩ := h _ hb
  have ho : o < cs.size := by
    unfold World.cell? at hc
    rw [e] at hc
    simpa using hc
  have := hl o ho
  simp only [World.frozen?, e, Bool.and_eq_false_iff, decide_eq_false_iff_not]
  simp only at this
  omega
theorem OwnL.store {m : World} {F : List Nat} {b o : Nat} {v : Value} (h : OwnL m F) : OwnL (m.setCell ⟨b, o, none⟩ v) F := fun x hx => by
  obtain ⟨cs, t, lh, e, hl⟩ := h x hx
  by_cases hxb : x = b
  · subst hxb
    refine ⟨cs.setIfInBounds o v, t, lh, ?_, by simpa using hl⟩
    simp [World.setCell, Array.getElem?_modify, e]
  · exact ⟨cs, t, lh, (Go.heap_setCell_other m ⟨b, o, none⟩ x v hxb).trans e, hl⟩
theorem OwnL.chg {F G : List Nat} {m m' : World} (c : ChL G m m') (hG : OwnL m' G) (h : OwnL m F) : OwnL m' F := fun b hb => by
  by_cases hg : b ∈ G
  · exact hG b hg
  · obtain ⟨cs, t, lh, e, hl⟩ := h b hb
    exact ⟨cs, t, lh, (c.chg.blocks b (vis_of_ownL ⟨cs, t, lh, e, hl⟩) hg).trans e, hl⟩
theorem OwnL.sub {F G : List Nat} {m : World} (h : OwnL m F) (hs : ∀ b ∈ G, b ∈ F) : OwnL m G := fun b hb => h b (hs b hb)
def Mrk1 (m0 : World) (F : List Nat) (m : World) (b o : Nat) (ds es : List D) : Prop :=
  ∃ v1 v2 F1 F2, F = b :: (F1 ++ F2) ∧ F.Nodup ∧ OwnL m F ∧ ChL F m0 m ∧ Cells m b o (v1 ++ v2) ∧ ValsF m ds v1 F1 ∧ ValsF m es v2 F2 ∧ ds ++ es ≠ []
def Mrk (m0 : World) (F : List Nat) (m : World) (a : Option Addr) (ds es : List D) : Prop :=
  (ds = [] ∧ es = [] ∧ F = [] ∧ ChL [] m0 m) ∨ ∃ b o, a = some ⟨b, o, none⟩ ∧ Mrk1 m0 F m b o ds es
theorem Mrk.start {m : World} {a : Option Addr} {n cap : Nat} {ds : List D} {F : List Nat} (h : CellF m (.sl n ds) (.slice a n cap) F) (hn : F.Nodup) (ho : OwnL m F) : Mrk m F m a [] ds := by
  obtain ⟨a', cap', h1, _, _, _, hc⟩ := h
  injection h1 with h1 _ h1c
  subst h1 h1c
  rcases hc with ⟨rfl, rfl⟩ | ⟨hne, b, o, F', rfl, hr, rfl⟩
  · exact .inl ⟨rfl, rfl, rfl, ChL.refl _ _⟩
  · obtain ⟨vs, hcells, hv⟩ := hr.vals
    exact .inr ⟨b, o, rfl, [], vs, [], F', rfl, hn, ho, ChL.refl _ _, hcells, rfl, hv, by simpa using hne⟩
theorem Mrk.done {m0 m : World} {a : Option Addr} {n cap : Nat} {ds : List D} {F : List Nat} (h : Mrk m0 F m a ds []) (h1 : n ≤ cap) (h2 : cap ≤ maxLen) (h3 : a = none → cap = 0) :
    CellF m (.sl n ds) (.slice a n cap) F ∧ OwnL m F ∧ ChL F m0 m := by
  rcases h with ⟨rfl, _, rfl, hc⟩ | ⟨b, o, rfl, v1, v2, F1, F2, rfl, hn, ho, hc, hcl, hv1, hv2, hne⟩
  · exact ⟨⟨a, cap, rfl, h1, h2, h3, .inl ⟨rfl, rfl⟩⟩, OwnL.nil _, hc⟩
  · cases v2 with
    | cons _ _ => exact hv2.elim
    | nil =>
      have hv2 : F2 = [] := hv2
      subst hv2
      rw [List.append_nil] at hcl hne ho hc ⊢
      exact ⟨⟨_, cap, rfl, h1, h2, h3, .inr ⟨hne, b, o, F1, rfl, hv1.row hcl, rfl⟩⟩, ho, hc⟩
theorem Mrk.open {m0 m : World} {a : Option Addr} {ds es : List D} {F : List Nat} (h : Mrk m0 F m a ds es) (hne : es ≠ []) : ∃ b o, a = some ⟨b, o, none⟩ ∧ Mrk1 m0 F m b o ds es := by
  rcases h with ⟨_, h, _⟩ | h
  · exact absurd h hne
  · exact h
theorem Mrk1.close {m0 m : World} {b o : Nat} {ds es : List D} {F : List Nat} (h : Mrk1 m0 F m b o ds es) : Mrk m0 F m (some ⟨b, o, none⟩) ds es := .inr ⟨b, o, rfl, h⟩
theorem Mrk1.here {m0 m : World} {b o p : Nat} {u : Value} {ds es : List D} {F : List Nat} (h : Mrk1 m0 F m b o ds (.lit u :: es)) (hp : p = o + ds.length) :
    (m.cell? ⟨b, p, none⟩).isSome = true ∧ m.frozen? ⟨b, p, none⟩ = false := by
  obtain ⟨v1, v2, F1, F2, rfl, hn, ho, hc, hcl, hv1, hv2, _⟩ := h
  subst hp
  have hc : (m.cell? ⟨b, o + ds.length, none⟩).isSome = true := by
    cases v2 with
    | nil => exact hv2.elim
    | cons v v2 =>
      have := hcl v1.length v (by rw [List.getElem?_append_right (by omega)]; simp)
      rw [hv1.length] at this
      rw [this]; rfl
  exact ⟨hc, ho.frozen (by simp) hc⟩
theorem Mrk1.store {m0 m : World} {b o p : Nat} {u u' : Value} {ds es : List D} {F : List Nat} (h : Mrk1 m0 F m b o ds (.lit u :: es)) (hp : p = o + ds.length) (hu : okV u') :
    Mrk1 m0 F (m.setCell ⟨b, p, none⟩ u') b o (ds ++ [.lit u']) es := by
  obtain ⟨v1, v2, F1, F2, rfl, hn, ho, hc, hcl, hv1, hv2, _⟩ := h
  subst hp
  cases v2 with
  | nil => exact hv2.elim
  | cons v v2 =>
    obtain ⟨G1, G2, ⟨_, rfl, _⟩, hv2, rfl⟩ := hv2
    have hs := Cells.store_at (va := v1) (ve := [v]) (vb := v2) (i := ds.length) (j := 0) (v := u') hcl hv1.length (by simp)
    simp only [List.nil_append, List.nodup_cons, List.mem_append, not_or] at hn ⊢
    have c : ChL [b] m (m.setCell ⟨b, o + ds.length, none⟩ u') := ChL.store
    have hd1 : ∀ x ∈ F1, x ∉ [b] := fun x hx e => hn.1.1 (by simp at e; exact e ▸ hx)
    have hd2 : ∀ x ∈ F2, x ∉ [b] := fun x hx e => hn.1.2 (by simp at e; exact e ▸ hx)
    refine ⟨v1 ++ [u'], v2, F1, F2, rfl, by simpa using hn, ho.store, hc.trans (c.mono (by simp)), ?_, ?_, hv2.chg c.chg hd2, by simp⟩
    · simpa using hs
    · have hj := (hv1.chg c.chg hd1).join (ValsF.single (m := m.setCell ⟨b, o + ds.length, none⟩ u') (d := .lit u') (v := u') (F := []) ⟨rfl, rfl, hu⟩)
      rwa [List.append_nil] at hj
theorem Mrk1.load {m0 m : World} {b o p : Nat} {d : D} {ds es : List D} {F : List Nat} (h : Mrk1 m0 F m b o ds (d :: es)) (hp : p = o + ds.length) :
    ∃ v G, m.cell? ⟨b, p, none⟩ = some v ∧ CellF m d v G ∧ G.Nodup ∧ OwnL m G ∧ (∀ x ∈ G, x ∈ F) ∧
      ∀ m' d', ChL G m m' → CellF m' d' v G → OwnL m' G → Mrk1 m0 F m' b o (ds ++ [d']) es := by
  obtain ⟨v1, v2, F1, F2, rfl, hn, ho, hc, hcl, hv1, hv2, _⟩ := h
  subst hp
  cases v2 with
  | nil => exact hv2.elim
  | cons v v2 =>
    obtain ⟨G1, G2, hd, hv2, rfl⟩ := hv2
    have hat := hcl v1.length v (by rw [List.getElem?_append_right (by omega)]; simp)
    rw [hv1.length] at hat
    have hn' := hn
    simp only [List.nodup_cons, List.nodup_append, List.mem_append, not_or] at hn'
    obtain ⟨⟨nb1, nbg, nb2⟩, n1, ⟨ng, n2, ng2⟩, n12⟩ := hn'
    refine ⟨v, G1, hat, hd, ng, ho.sub (by simp; intro x hx; simp [hx]), by simp; intro x hx; simp [hx], fun m' d' c hd' ho' => ?_⟩
    refine ⟨v1 ++ [v], v2, F1 ++ G1, G2, by simp, hn, OwnL.chg c ho' ho, hc.trans (c.mono (by simp; intro x hx; simp [hx])), ?_, ?_, hv2.chg c.chg (fun x hx e => ng2 x e x hx rfl), by simp⟩
    · have := hcl.chg c.chg nbg
      simpa using this
    · exact (hv1.chg c.chg (fun x hx e => n12 x hx x (.inl e) rfl)).join (ValsF.single hd')
theorem Mrk1.st {m0 m : World} {b o : Nat} {u : Value} {ds es : List D} {F : List Nat} (h : Mrk1 m0 F m b o ds (.lit u :: es)) (p : Nat) (u' : Value) (hp : p = o + ds.length) (hu : okV u') :
    (m.cell? ⟨b, p, none⟩).isSome = true ∧ m.frozen? ⟨b, p, none⟩ = false ∧ ∃ m', m.setCell ⟨b, p, none⟩ u' = m' ∧ Mrk1 m0 F m' b o (ds ++ [.lit u']) es :=
  ⟨(h.here hp).1, (h.here hp).2, _, rfl, h.store hp hu⟩
theorem Mrk1.grow {m0 m m' : World} {b o : Nat} {ds es : List D} {F : List Nat} (gg : Gr m m') (h : Mrk1 m0 F m b o ds es) : Mrk1 m0 F m' b o ds es := by
  obtain ⟨v1, v2, F1, F2, rfl, hn, ho, hc, hcl, hv1, hv2, hne⟩ := h
  have g := gg.grow
  exact ⟨v1, v2, F1, F2, rfl, hn, ho.grow g, hc.trans (gg.chl _), hcl.grow g, hv1.grow g, hv2.grow g, hne⟩
theorem Mrk1.chl {m0 m : World} {b o : Nat} {ds es : List D} {F : List Nat} (h : Mrk1 m0 F m b o ds es) : ChL F m0 m := by
  obtain ⟨_, _, _, _, rfl, _, _, hc, _⟩ := h
  exact hc
theorem glw_chl {w w' : World} {F : List Nat} (h : ChL F w w') (hg : GlW w (fun _ => False)) (hf : ∀ t ∈ libVars, t.1 ∉ F) : GlW w' (fun _ => False) := fun t ht => by
  obtain ⟨h1, cs, ty, lh, h2, h3⟩ := hg t ht
  exact ⟨h1, cs, ty, lh, (h.keep _ (Array.getElem?_eq_some_iff.1 h2).1 (hf t ht)).trans h2, h3⟩
end Go.Cv
namespace Go.Cv
open Go Go.RowKit Go.Dv
open Go.Vc (vis vis_of_cell CellF RowF ValsF D okV Cells Chg Grow add_lit0 callable)
structure New (w w' : World) (G : List Nat) : Prop where
  nodup : G.Nodup
  new : ∀ b ∈ G, w.heap.size ≤ b
  own : OwnL w' G
theorem New.nil (w w' : World) : New w w' [] := ⟨List.nodup_nil, (fun _ h => by cases h), OwnL.nil _⟩
def Res (P : Program) (w w' : World) (r : S) (v : Value) : Prop :=
  ∃ β ok, RelS P w' β ok (expS 9700 r) v ∧ (∀ b, ok b → ¬ ownB (back r []) β b) ∧ (∀ i o, Go.Dv.look (back r []) i = some o → RelO P w' β ok i o) ∧ (∀ b, ownB (back r []) β b → w.heap.size ≤ b) ∧
    (fps r []).flatten.Nodup ∧ (∀ b ∈ (fps r []).flatten, w.heap.size ≤ b ∧ ∃ cs t lh, w'.heap[b]? = some (.cells cs t lh) ∧ Lh cs.size lh)
section
variable {P : Program} {w w' : World}
theorem Cl.at {g : FuncId} {args : List S} {R : S → List (List C) → Prop} (h : Cl P g args [] R) (hp : plainL (args.flatMap cellsS) = true) {vs : List Value}
    (hv : RelA P w (fun _ => none) (fun _ => True) args vs) (hg : GlW w (fun _ => False)) :
    callable P g = true ∧ Calls P g vs.toArray w fun e w' => ∃ v, e = .returned v ∧ ∃ r, R r [] ∧ Gr w w' ∧ Res P w w' r v := by
  obtain ⟨e1, e2⟩ := plain_args 9500 hp
  have el : lent args [] = [] := by simp [lent, e2, expB]
  have hno : ∀ β b, ¬ ownB [] β b := fun β b ⟨i, o, h1, _⟩ => by simp [Go.Dv.look] at h1
  have hok : okA (fun _ => True) (lent args []) (fun _ => none) = fun _ => True := by
    funext b
    simp [okA, el, hno]
  refine ⟨h.1, (h.2 w (fun _ => none) (fun _ => True) vs ?_ ?_ ?_).mono ?_⟩
  · rw [e1, hok]; exact hv
  · rw [el]; exact ⟨fun i o hl => by simp [Go.Dv.look] at hl, fun i j o o' b hl => by simp [Go.Dv.look] at hl⟩
  · exact hg.mono (fun _ _ _ => rfl) fun b hb _ => by rw [el] at hb; exact (hno _ _ hb).elim
  · rintro e W' ⟨v, r, objs, β, rfl, hR, hP⟩
    have ho : objs = [] := List.eq_nil_of_length_eq_zero (by simpa using hP.len)
    subst ho
    refine ⟨v, rfl, r, hR, ⟨hP.tr.size, fun b hb => hP.tr.keep b hb (by rw [el]; exact hno _ b), hP.outer.1, hP.outer.2.1, hP.outer.2.2⟩, β, _, hP.rel, fun b hb => hb.1, hP.obs.rel, fun b hb => ?_, hP.fresh.1, fun b hb => ?_⟩
    · by_cases hlt : b < w.heap.size
      · have := hP.tr.own b hlt hb
        rw [el] at this; exact (hno _ _ this).elim
      · omega
    · obtain ⟨h1, h2, _⟩ := hP.fresh.2 b hb
      refine ⟨h1.elim id fun h => ?_, h2⟩
      rw [el] at h; exact (hno _ _ h).elim
theorem Res.val {x v : Value} (h : Res P w w' (.c (.v x)) v) : v = x := by
  obtain ⟨β, ok, h, _⟩ := h
  exact h.1
theorem csOf_vals {ok : Nat → Prop} {β : Nat → Option Nat} : ∀ {ds : List D} {vs : List Value}, (∀ d ∈ ds, ∀ x, d = .lit x → True) → RelL P w β ok (csOf ds) vs → ∃ G, ValsF w ds vs G
  | [], [], _, _ => ⟨[], rfl⟩
  | [], _ :: _, _, h => h.elim
  | _ :: _, [], _, h => h.elim
  | .lit x :: ds, v :: vs, hh, h => by
    obtain ⟨G, hG⟩ := csOf_vals (fun d hd => hh d (by simp [hd])) h.2
    obtain ⟨h1, h2⟩ := (show v = x ∧ okV x from h.1)
    subst h1
    exact ⟨G, [], G, ⟨rfl, rfl, h2⟩, hG, by simp⟩
  | .sl n es :: ds, v :: vs, hh, h => by
    obtain ⟨G, hG⟩ := csOf_vals (fun d hd => hh d (by simp [hd])) h.2
    obtain ⟨H, h1, _⟩ := h.1
    exact ⟨H ++ G, H, G, h1, hG, rfl⟩
theorem expC_csOf (b : Nat) : ∀ ds : List D, expC b (csOf ds) = csOf ds
  | [] => rfl
  | d :: ds => by cases d <;> simp [csOf, cOf, expC, expC_csOf (b + 10000) ds]
theorem Res.ag {ds : List D} {v : Value} (h : Res P w w' (.ag (csOf ds)) v) : ∃ vs G, v = .agg (vs : List Value).toArray ∧ ValsF w' ds vs G := by
  obtain ⟨β, ok, h, _⟩ := h
  simp only [expS, expC_csOf] at h
  obtain ⟨vs, rfl, h⟩ := h
  obtain ⟨G, hG⟩ := csOf_vals (fun _ _ _ _ => trivial) h
  exact ⟨vs, G, rfl, hG⟩
theorem Res.sl {n : Nat} {ds : List D} {v : Value} (h : Res P w w' (.c (.sl n ds none)) v) : ∃ G, CellF w' (.sl n ds) v G := by
  obtain ⟨β, ok, h, _⟩ := h
  obtain ⟨G, hG, _⟩ := h
  exact ⟨G, hG⟩
theorem vals_lits : ∀ {ds : List D} {vs : List Value} {G : List Nat}, (∀ d ∈ ds, ∃ x, d = .lit x) → ValsF w ds vs G → G = []
  | [], [], _, _, h => h
  | [], _ :: _, _, _, h => h.elim
  | _ :: _, [], _, _, h => h.elim
  | d :: ds, v :: vs, G, hl, ⟨F1, F2, h1, h2, h3⟩ => by
    obtain ⟨x, rfl⟩ := hl d (by simp)
    have e2 := vals_lits (fun d hd => hl d (by simp [hd])) h2
    have e1 : F1 = [] := h1.2.1
    rw [h3, e1, e2]; rfl
theorem Res.owL {ty : TypeId} {n : Nat} {ds : List D} {F : Option (List (List Nat))} {v : Value} (hl : ∀ d ∈ ds, ∃ x, d = .lit x) (h : Res P w w' (.c (.ow ty n ds F)) v) : ∃ G, CellF w' (.sl n ds) v G ∧ New w w' G := by
  obtain ⟨β, ok, h, hno, hobj, hnew, hnd, hfr⟩ := h
  have hb : back (.c (.ow ty n ds F)) [] = [(9700, .arr ty n ds F)] := rfl
  rw [hb] at hno hobj hnew
  have ho := hobj 9700 (.arr ty n ds F) rfl
  have hO : OwnS P w' (β 9700) n v := h
  clear h
  rcases ho with ⟨h1, rfl, rfl⟩ | ⟨b, vs, hd, junk, G, lh, h1, h2, hlh, h3, h4, h5, h6, h7⟩
  · rw [h1] at hO
    obtain ⟨_, rfl⟩ := hO
    exact ⟨[], ⟨none, 0, rfl, Nat.le_refl _, by simp [maxLen], fun _ => rfl, .inl ⟨rfl, rfl⟩⟩, New.nil _ _⟩
  · rw [h1] at hO
    obtain ⟨cap, cs, ty', lh', rfl, hc1, hc2, _, _⟩ := hO
    have hob : ownB [(9700, O.arr ty n ds F)] β b := ⟨9700, _, rfl, h1⟩
    obtain rfl := vals_lits hl h4
    by_cases hds : ds = []
    · exact ⟨[], ⟨_, cap, rfl, hc1, hc2, by simp, .inl ⟨hds, rfl⟩⟩, New.nil _ _⟩
    · refine ⟨[b], ⟨_, cap, rfl, hc1, hc2, by simp, .inr ⟨hds, b, 0, [], rfl, h4.row fun j u hj => ?_, rfl⟩⟩, ⟨by simp, fun x hx => ?_, fun x hx => ?_⟩⟩
      · rw [Nat.zero_add, cell_of_row w' b j vs ty lh h2, ← Array.getElem?_toList, h3, List.getElem?_append_left (List.getElem?_eq_some_iff.1 hj).1]; exact hj
      · obtain rfl : x = b := by simpa using hx
        exact hnew _ hob
      · obtain rfl : x = b := by simpa using hx
        exact ⟨vs, ty, lh, h2, hlh⟩
structure Td (cs : List C) (ds : List D) (F : List (List Nat)) : Prop where
  exp : ∀ b, expC b cs = cs
  obj : ∀ b, expO b cs = []
  dat : dsOf cs = some (ds, some F)
  fp : fpL cs = F
  flat : flatL cs = true
  good : cs.all goodC = true
  kill : ∀ a b, kCs a b cs = cs
  frz : ∀ i n x, fCs i n x cs = cs
  owns : ownsC cs = none
  len : cs.length = ds.length
theorem Res.td {cs : List C} {ds : List D} {F : List (List Nat)} {v : Value} (ht : Td cs ds F) (h : Res P w w' (.ag cs) v) : ∃ vs G, v = .agg (vs : List Value).toArray ∧ ValsF w' ds vs G ∧ New w w' G := by
  obtain ⟨β, ok, h, hno, hobj, hnew, hnd, hfr⟩ := h
  simp only [expS, ht.exp] at h
  obtain ⟨vs, rfl, h⟩ := h
  have hf : fps (.ag cs) [] = F := by simp [fps, cellsS, ht.fp, fpB]
  rw [hf] at hnd hfr
  obtain ⟨G, hG, hok, hs⟩ := dsOf_rel ht.dat h
  exact ⟨vs, G, rfl, hG, ⟨(hs _ rfl).nodup hnd, fun b hb => (hfr b ((hs _ rfl).mem hb)).1, fun b hb => (hfr b ((hs _ rfl).mem hb)).2⟩⟩
end
theorem New.lt {w w' : World} {G : List Nat} (h : New w w' G) : ∀ b ∈ G, b < w'.heap.size := fun b hb => vis_lt (h.own.vis b hb)
theorem glw_gr {w w' : World} (h : Gr w w') (hg : GlW w (fun _ => False)) : GlW w' (fun _ => False) := hg.mono (fun b hb _ => h.keep b hb) fun _ h _ => h
theorem vals_cons {w : World} {d : D} {ds : List D} {vs : List Value} {F : List Nat} (h : ValsF w (d :: ds) vs F) : ∃ v r F1 R, vs = v :: r ∧ CellF w d v F1 ∧ ValsF w ds r R ∧ F = F1 ++ R := by
  cases vs with
  | nil => exact h.elim
  | cons v r => obtain ⟨F1, F2, h1, h2, h3⟩ := h; exact ⟨v, r, F1, F2, rfl, h1, h2, h3⟩
theorem vals_nil {w : World} {vs : List Value} {F : List Nat} (h : ValsF w [] vs F) : vs = [] ∧ F = [] := by
  cases vs with
  | nil => exact ⟨rfl, h⟩
  | cons _ _ => exact h.elim
theorem vals_cons_mk {w : World} {d : D} {ds : List D} {v : Value} {r : List Value} {F R : List Nat} (h : CellF w d v F) (k : ValsF w ds r R) : ValsF w (d :: ds) (v :: r) (F ++ R) := ⟨F, R, h, k, rfl⟩
theorem vals_nil_mk {w : World} : ValsF w [] [] [] := rfl
theorem lit_cell {w : World} {v : Value} (h : okV v) : CellF w (.lit v) v [] := ⟨rfl, rfl, h⟩
theorem nodup_of {A B : List Nat} (h : B.Nodup) (hs : ∀ x, A.count x ≤ B.count x) : A.Nodup := Sb.nodup (B := B) hs h
theorem disj_of {A B C : List Nat} (h : C.Nodup) (hs : ∀ x, A.count x + B.count x ≤ C.count x) : ∀ x ∈ A, x ∉ B := fun x hx hy => by
  have h1 := List.nodup_iff_count.1 h x
  have h2 := List.count_pos_iff.2 hx
  have h3 := List.count_pos_iff.2 hy
  have := hs x
  omega
theorem box_new {w w' : World} {b : Nat} {cs : Array Value} {t : TypeId} (hb : b = w.heap.size) (hw : w' = w.alloc (.cells cs t)) : w'.heap[b]? = some (.cells cs t (0, 0)) ∧ Gr w w' := by
  subst hb hw
  exact ⟨Go.heap_alloc_new w _, by simp, fun x hx => Go.heap_alloc_old w _ hx, rfl, rfl, rfl⟩
theorem box_cell {w : World} {b : Nat} {cs : Array Value} {t : TypeId} {lh : Nat × Nat} (h : w.heap[b]? = some (.cells cs t lh)) {j : Nat} {v : Value} (hv : cs[j]? = some v) : w.cell? ⟨b, j, none⟩ = some v := by
  rw [cell_of_row w b j cs t lh h]; exact hv
theorem OwnL.other {F G : List Nat} {a b : World} (h : OwnL a F) (g : ChL G a b) (hd : ∀ x ∈ F, x ∉ G) : OwnL b F := fun x hx => by
  obtain ⟨cs, t, lh, e, hl⟩ := h x hx
  exact ⟨cs, t, lh, (g.keep x (vis_lt (h.vis x hx)) (hd x hx)).trans e, hl⟩
def told : List D → List (List (List Nat)) → List C
  | .lit v :: r, Fs => .v v :: told r Fs
  | .sl n ds :: r, F :: Fs => .sl n ds (some F) :: told r Fs
  | .sl n ds :: r, [] => .sl n ds none :: told r []
  | [], _ => []
def tOk : List D → Nat → Bool
  | .lit (.slice ..) :: _, _ => false
  | .lit (.agg ..) :: _, _ => false
  | .lit (.tuple ..) :: _, _ => false
  | .lit _ :: r, k => tOk r k
  | .sl .. :: r, k + 1 => tOk r k
  | .sl .. :: _, 0 => false
  | [], k => k == 0
theorem told_td : ∀ (ds : List D) (Fs : List (List (List Nat))), tOk ds Fs.length = true → Td (told ds Fs) ds Fs.flatten
  | [], [], _ => ⟨fun _ => rfl, fun _ => rfl, rfl, rfl, rfl, rfl, fun _ _ => rfl, fun _ _ _ => rfl, rfl, rfl⟩
  | [], _ :: _, h => by simp [tOk] at h
  | .sl n es :: r, [], h => by simp [tOk] at h
  | .sl n es :: r, F :: Fs, h => by
    have t := told_td r Fs (by simpa [tOk] using h)
    exact ⟨fun b => by simp [told, expC, t.exp], fun b => by simp [told, expO, t.obj], by simp [told, dsOf, dOf, t.dat, joinF], by simp [told, fpL, fpC, t.fp], by simp [told, flatL, flatC, t.flat], by simp [told, goodC, t.good], fun a b => by simp [told, kCs, kC, t.kill], fun i m x => by simp [told, fCs, fC, t.frz], by simp [told, ownsC, t.owns], by simp [told, t.len]⟩
  | .lit v :: r, Fs, h => by
    have t := told_td r Fs (by cases v <;> simp_all [tOk])
    have hd : dOf (.v v) = some (.lit v, some []) := by cases v <;> first | rfl | simp [tOk] at h
    have hg : goodC (.v v) = true := by cases v <;> first | rfl | simp [tOk] at h
    exact ⟨fun b => by simp [told, expC, t.exp], fun b => by simp [told, expO, t.obj], by simp [told, dsOf, hd, t.dat, joinF], by simp [told, fpL, fpC, t.fp], by simp [told, flatL, flatC, t.flat], by simp [told, hg, t.good], fun a b => by simp [told, kCs, kC, t.kill], fun i m x => by simp [told, fCs, fC, t.frz], by simp [told, ownsC, t.owns], by simp [told, t.len]⟩
theorem poSub_ap (a b : List (List Nat)) : PoSub (some (a ++ b)) (some (apF a b)) := fun qs h => by
  injection h with h
  subst h
  exact ⟨_, rfl, fun x => by rw [apF_flat]; simp⟩
theorem pool_ok {F G : List Nat} (h : ∀ x, F.count x ≤ G.count x) : Sb F G := h
end Go.Cv
set_option maxRecDepth 8000
namespace Go.Proofs.YthhkmmcgjnecbaaGreatDoor
open Go Go.Dv
open Go.Vc (D shrI xorI andI and255)
open Go.Cv
theorem tda_ofExpr {a : Expr} (h : szExpr a ≤ 1048576 → Cl Tryz.prog 70 [.ag (csOf a.row)] [] fun r _ => ∃ Fkids Fsub, r = .ag (told a.row [Fkids, Fsub])) : szExpr a ≤ 1048576 → Cl Tryz.prog 70 [.ag (csOf a.row)] [] fun r _ => ∃ cs Fs, r = .ag cs ∧ Td cs a.row Fs := fun hs => (h hs).mono fun r _ ⟨Fkids, Fsub, e⟩ => ⟨_, _, e, told_td _ _ (by
  obtain ⟨kind, op, not, val, qual, name, kids, sub⟩ := a
  simp only [Expr.row_mk, List.cons_append, List.nil_append]
  rfl)⟩
theorem tdExprs_step (a : List Expr) (hx : ∀ x ∈ a, szExpr x ≤ 1048576 → Cl Tryz.prog 70 [.ag (csOf x.row)] [] fun r _ => ∃ cs Fs, r = .ag cs ∧ Td cs x.row Fs) (h : szExprs a ≤ 1048576) : Cl Tryz.prog 28 [.c (.sl a.length (a.flatMap Expr.row) none)] [] fun r _ => ∃ Fs, r = .c (.ow 114 a.length (a.flatMap Expr.row) (some Fs)) := by
  rw [szExprs_eq] at h
  have hl : a.length ≤ 1048576 := by omega
  refine cl_of_d follows_mixed true Tryz.func28 rfl (by kernel_rfl) ?_
  simp only [Tryz.f28, tt, seval]
  refine fun _ => ⟨by omega, by omega, by omega, ?_⟩
  refine dLoop.intro (fun f L p => ∃ (i : Nat) (Fs : List (List Nat)), f 4 = vi i ∧ i ≤ a.length ∧ L = [(7, .arr 114 a.length ((a.take i).flatMap Expr.row ++ (List.replicate (a.length - i) [int 0, int 0, bool false, int 0, int 0, str ByteArray.empty, str ByteArray.empty, str ByteArray.empty, .sl 0 [], .sl 0 []]).flatten) (some Fs))] ∧ p = some Fs) (fun f _ _ => (a.length - ixS (f 4)).toNat) [(7, .arr 114 a.length (List.replicate a.length [int 0, int 0, bool false, int 0, int 0, str ByteArray.empty, str ByteArray.empty, str ByteArray.empty, .sl 0 [], .sl 0 []]).flatten (some []))] (some []) ⟨SubO.cons rfl (SubO.nil _), PoSub.refl _, ?_⟩ ?_
  · simp only [tt, seval]
    exact ⟨0, [], rfl, by omega, by simp, rfl⟩
  · rintro g L p ⟨i, Fs, h4, hi, rfl, rfl⟩
    simp only [tt, seval] at h4
    simp only [tt, seval, h4, Int.ofNat_lt]
    refine fun _ => And.intro (fun hlt => ?_) (fun hge => ?_)
    · have hlt : i < a.length := by omega
      have hts := take_succ_sum szExpr hlt
      obtain ⟨rst', hr'⟩ := take_sum_le szExpr a (i + 1)
      refine ⟨by omega, by omega, _, drop_row Expr.row_len (List.getElem?_eq_getElem hlt), Expr.ne _ _, ?_⟩
      simp only [tt, seval, h4, Expr.tk, Expr.row_len]
      refine call0 (hx a[i] (List.getElem_mem hlt) (by omega)) ?_ ?_ ?_
      · decide
      · simp only [tt, seval]
      rintro r ⟨cs, Gs, rfl, ht⟩
      simp only [tt, seval, h4, Expr.row_len, ht.exp, ht.obj, ht.dat, ht.fp, ht.flat, ht.good, ht.kill, ht.frz, ht.owns, ht.len]
      refine ⟨by omega, by omega, by rw [fillLen Expr.row_len rfl a (by omega)]; omega, ?_⟩
      rw [wrap_id (n := (i : Int) + 1) (by omega) (by omega)]
      exact ⟨_, _, SubO.cons rfl (SubO.nil _), poSub_ap _ _, ⟨i + 1, _, rfl, by omega, congrArg (fun x => [(7, O.arr 114 a.length x (some (apF Fs Gs)))]) (fillRow Expr.row_len rfl hlt), rfl⟩, by simp only [ixS]; omega⟩
    · have : i = a.length := by omega
      subst this
      rw [fillLast]
      refine ⟨_, [], ⟨Fs, rfl⟩, endOk ?_⟩
      simp only [tt, seval]
      exact Sb.refl _
theorem tda_ofItem {a : Item} (h : szItem a ≤ 1048576 → Cl Tryz.prog 68 [.ag (csOf a.row)] [] fun r _ => ∃ Fe_kids Fe_sub, r = .ag (told a.row [Fe_kids, Fe_sub])) : szItem a ≤ 1048576 → Cl Tryz.prog 68 [.ag (csOf a.row)] [] fun r _ => ∃ cs Fs, r = .ag cs ∧ Td cs a.row Fs := fun hs => (h hs).mono fun r _ ⟨Fe_kids, Fe_sub, e⟩ => ⟨_, _, e, told_td _ _ (by
  obtain ⟨star, qual, ⟨e_kind, e_op, e_not, e_val, e_qual, e_name, e_kids, e_sub⟩, as_⟩ := a
  simp only [Item.row_mk, Expr.row_mk, List.cons_append, List.nil_append]
  rfl)⟩
theorem tdItems_step (a : List Item) (hx : ∀ x ∈ a, szItem x ≤ 1048576 → Cl Tryz.prog 68 [.ag (csOf x.row)] [] fun r _ => ∃ cs Fs, r = .ag cs ∧ Td cs x.row Fs) (h : szItems a ≤ 1048576) : Cl Tryz.prog 26 [.c (.sl a.length (a.flatMap Item.row) none)] [] fun r _ => ∃ Fs, r = .c (.ow 116 a.length (a.flatMap Item.row) (some Fs)) := by
  rw [szItems_eq] at h
  have hl : a.length ≤ 1048576 := by omega
  refine cl_of_d follows_mixed true Tryz.func26 rfl (by kernel_rfl) ?_
  simp only [Tryz.f26, tt, seval]
  refine fun _ => ⟨by omega, by omega, by omega, ?_⟩
  refine dLoop.intro (fun f L p => ∃ (i : Nat) (Fs : List (List Nat)), f 4 = vi i ∧ i ≤ a.length ∧ L = [(7, .arr 116 a.length ((a.take i).flatMap Item.row ++ (List.replicate (a.length - i) [bool false, str ByteArray.empty, int 0, int 0, bool false, int 0, int 0, str ByteArray.empty, str ByteArray.empty, str ByteArray.empty, .sl 0 [], .sl 0 [], str ByteArray.empty]).flatten) (some Fs))] ∧ p = some Fs) (fun f _ _ => (a.length - ixS (f 4)).toNat) [(7, .arr 116 a.length (List.replicate a.length [bool false, str ByteArray.empty, int 0, int 0, bool false, int 0, int 0, str ByteArray.empty, str ByteArray.empty, str ByteArray.empty, .sl 0 [], .sl 0 [], str ByteArray.empty]).flatten (some []))] (some []) ⟨SubO.cons rfl (SubO.nil _), PoSub.refl _, ?_⟩ ?_
  · simp only [tt, seval]
    exact ⟨0, [], rfl, by omega, by simp, rfl⟩
  · rintro g L p ⟨i, Fs, h4, hi, rfl, rfl⟩
    simp only [tt, seval] at h4
    simp only [tt, seval, h4, Int.ofNat_lt]
    refine fun _ => And.intro (fun hlt => ?_) (fun hge => ?_)
    · have hlt : i < a.length := by omega
      have hts := take_succ_sum szItem hlt
      obtain ⟨rst', hr'⟩ := take_sum_le szItem a (i + 1)
      refine ⟨by omega, by omega, _, drop_row Item.row_len (List.getElem?_eq_getElem hlt), Item.ne _ _, ?_⟩
      simp only [tt, seval, h4, Item.tk, Item.row_len]
      refine call0 (hx a[i] (List.getElem_mem hlt) (by omega)) ?_ ?_ ?_
      · decide
      · simp only [tt, seval]
      rintro r ⟨cs, Gs, rfl, ht⟩
      simp only [tt, seval, h4, Item.row_len, ht.exp, ht.obj, ht.dat, ht.fp, ht.flat, ht.good, ht.kill, ht.frz, ht.owns, ht.len]
      refine ⟨by omega, by omega, by rw [fillLen Item.row_len rfl a (by omega)]; omega, ?_⟩
      rw [wrap_id (n := (i : Int) + 1) (by omega) (by omega)]
      exact ⟨_, _, SubO.cons rfl (SubO.nil _), poSub_ap _ _, ⟨i + 1, _, rfl, by omega, congrArg (fun x => [(7, O.arr 116 a.length x (some (apF Fs Gs)))]) (fillRow Item.row_len rfl hlt), rfl⟩, by simp only [ixS]; omega⟩
    · have : i = a.length := by omega
      subst this
      rw [fillLast]
      refine ⟨_, [], ⟨Fs, rfl⟩, endOk ?_⟩
      simp only [tt, seval]
      exact Sb.refl _
theorem tda_ofSource {a : Source} (h : szSource a ≤ 1048576 → Cl Tryz.prog 69 [.ag (csOf a.row)] [] fun r _ => ∃ Fon, r = .ag (told a.row [Fon])) : szSource a ≤ 1048576 → Cl Tryz.prog 69 [.ag (csOf a.row)] [] fun r _ => ∃ cs Fs, r = .ag cs ∧ Td cs a.row Fs := fun hs => (h hs).mono fun r _ ⟨Fon, e⟩ => ⟨_, _, e, told_td _ _ (by
  obtain ⟨table, as_, on⟩ := a
  simp only [Source.row_mk, List.cons_append, List.nil_append]
  rfl)⟩
theorem tdSources_step (a : List Source) (hx : ∀ x ∈ a, szSource x ≤ 1048576 → Cl Tryz.prog 69 [.ag (csOf x.row)] [] fun r _ => ∃ cs Fs, r = .ag cs ∧ Td cs x.row Fs) (h : szSources a ≤ 1048576) : Cl Tryz.prog 27 [.c (.sl a.length (a.flatMap Source.row) none)] [] fun r _ => ∃ Fs, r = .c (.ow 124 a.length (a.flatMap Source.row) (some Fs)) := by
  rw [szSources_eq] at h
  have hl : a.length ≤ 1048576 := by omega
  refine cl_of_d follows_mixed true Tryz.func27 rfl (by kernel_rfl) ?_
  simp only [Tryz.f27, tt, seval]
  refine fun _ => ⟨by omega, by omega, by omega, ?_⟩
  refine dLoop.intro (fun f L p => ∃ (i : Nat) (Fs : List (List Nat)), f 4 = vi i ∧ i ≤ a.length ∧ L = [(7, .arr 124 a.length ((a.take i).flatMap Source.row ++ (List.replicate (a.length - i) [str ByteArray.empty, str ByteArray.empty, .sl 0 []]).flatten) (some Fs))] ∧ p = some Fs) (fun f _ _ => (a.length - ixS (f 4)).toNat) [(7, .arr 124 a.length (List.replicate a.length [str ByteArray.empty, str ByteArray.empty, .sl 0 []]).flatten (some []))] (some []) ⟨SubO.cons rfl (SubO.nil _), PoSub.refl _, ?_⟩ ?_
  · simp only [tt, seval]
    exact ⟨0, [], rfl, by omega, by simp, rfl⟩
  · rintro g L p ⟨i, Fs, h4, hi, rfl, rfl⟩
    simp only [tt, seval] at h4
    simp only [tt, seval, h4, Int.ofNat_lt]
    refine fun _ => And.intro (fun hlt => ?_) (fun hge => ?_)
    · have hlt : i < a.length := by omega
      have hts := take_succ_sum szSource hlt
      obtain ⟨rst', hr'⟩ := take_sum_le szSource a (i + 1)
      refine ⟨by omega, by omega, _, drop_row Source.row_len (List.getElem?_eq_getElem hlt), Source.ne _ _, ?_⟩
      simp only [tt, seval, h4, Source.tk, Source.row_len]
      refine call0 (hx a[i] (List.getElem_mem hlt) (by omega)) ?_ ?_ ?_
      · decide
      · simp only [tt, seval]
      rintro r ⟨cs, Gs, rfl, ht⟩
      simp only [tt, seval, h4, Source.row_len, ht.exp, ht.obj, ht.dat, ht.fp, ht.flat, ht.good, ht.kill, ht.frz, ht.owns, ht.len]
      refine ⟨by omega, by omega, by rw [fillLen Source.row_len rfl a (by omega)]; omega, ?_⟩
      rw [wrap_id (n := (i : Int) + 1) (by omega) (by omega)]
      exact ⟨_, _, SubO.cons rfl (SubO.nil _), poSub_ap _ _, ⟨i + 1, _, rfl, by omega, congrArg (fun x => [(7, O.arr 124 a.length x (some (apF Fs Gs)))]) (fillRow Source.row_len rfl hlt), rfl⟩, by simp only [ixS]; omega⟩
    · have : i = a.length := by omega
      subst this
      rw [fillLast]
      refine ⟨_, [], ⟨Fs, rfl⟩, endOk ?_⟩
      simp only [tt, seval]
      exact Sb.refl _
theorem tda_ofSortKey {a : SortKey} (h : szSortKey a ≤ 1048576 → Cl Tryz.prog 71 [.ag (csOf a.row)] [] fun r _ => ∃ Fe_kids Fe_sub, r = .ag (told a.row [Fe_kids, Fe_sub])) : szSortKey a ≤ 1048576 → Cl Tryz.prog 71 [.ag (csOf a.row)] [] fun r _ => ∃ cs Fs, r = .ag cs ∧ Td cs a.row Fs := fun hs => (h hs).mono fun r _ ⟨Fe_kids, Fe_sub, e⟩ => ⟨_, _, e, told_td _ _ (by
  obtain ⟨⟨e_kind, e_op, e_not, e_val, e_qual, e_name, e_kids, e_sub⟩, desc⟩ := a
  simp only [SortKey.row_mk, Expr.row_mk, List.cons_append, List.nil_append]
  rfl)⟩
theorem tdSortKeys_step (a : List SortKey) (hx : ∀ x ∈ a, szSortKey x ≤ 1048576 → Cl Tryz.prog 71 [.ag (csOf x.row)] [] fun r _ => ∃ cs Fs, r = .ag cs ∧ Td cs x.row Fs) (h : szSortKeys a ≤ 1048576) : Cl Tryz.prog 29 [.c (.sl a.length (a.flatMap SortKey.row) none)] [] fun r _ => ∃ Fs, r = .c (.ow 121 a.length (a.flatMap SortKey.row) (some Fs)) := by
  rw [szSortKeys_eq] at h
  have hl : a.length ≤ 1048576 := by omega
  refine cl_of_d follows_mixed true Tryz.func29 rfl (by kernel_rfl) ?_
  simp only [Tryz.f29, tt, seval]
  refine fun _ => ⟨by omega, by omega, by omega, ?_⟩
  refine dLoop.intro (fun f L p => ∃ (i : Nat) (Fs : List (List Nat)), f 4 = vi i ∧ i ≤ a.length ∧ L = [(7, .arr 121 a.length ((a.take i).flatMap SortKey.row ++ (List.replicate (a.length - i) [int 0, int 0, bool false, int 0, int 0, str ByteArray.empty, str ByteArray.empty, str ByteArray.empty, .sl 0 [], .sl 0 [], bool false]).flatten) (some Fs))] ∧ p = some Fs) (fun f _ _ => (a.length - ixS (f 4)).toNat) [(7, .arr 121 a.length (List.replicate a.length [int 0, int 0, bool false, int 0, int 0, str ByteArray.empty, str ByteArray.empty, str ByteArray.empty, .sl 0 [], .sl 0 [], bool false]).flatten (some []))] (some []) ⟨SubO.cons rfl (SubO.nil _), PoSub.refl _, ?_⟩ ?_
  · simp only [tt, seval]
    exact ⟨0, [], rfl, by omega, by simp, rfl⟩
  · rintro g L p ⟨i, Fs, h4, hi, rfl, rfl⟩
    simp only [tt, seval] at h4
    simp only [tt, seval, h4, Int.ofNat_lt]
    refine fun _ => And.intro (fun hlt => ?_) (fun hge => ?_)
    · have hlt : i < a.length := by omega
      have hts := take_succ_sum szSortKey hlt
      obtain ⟨rst', hr'⟩ := take_sum_le szSortKey a (i + 1)
      refine ⟨by omega, by omega, _, drop_row SortKey.row_len (List.getElem?_eq_getElem hlt), SortKey.ne _ _, ?_⟩
      simp only [tt, seval, h4, SortKey.tk, SortKey.row_len]
      refine call0 (hx a[i] (List.getElem_mem hlt) (by omega)) ?_ ?_ ?_
      · decide
      · simp only [tt, seval]
      rintro r ⟨cs, Gs, rfl, ht⟩
      simp only [tt, seval, h4, SortKey.row_len, ht.exp, ht.obj, ht.dat, ht.fp, ht.flat, ht.good, ht.kill, ht.frz, ht.owns, ht.len]
      refine ⟨by omega, by omega, by rw [fillLen SortKey.row_len rfl a (by omega)]; omega, ?_⟩
      rw [wrap_id (n := (i : Int) + 1) (by omega) (by omega)]
      exact ⟨_, _, SubO.cons rfl (SubO.nil _), poSub_ap _ _, ⟨i + 1, _, rfl, by omega, congrArg (fun x => [(7, O.arr 121 a.length x (some (apF Fs Gs)))]) (fillRow SortKey.row_len rfl hlt), rfl⟩, by simp only [ixS]; omega⟩
    · have : i = a.length := by omega
      subst this
      rw [fillLast]
      refine ⟨_, [], ⟨Fs, rfl⟩, endOk ?_⟩
      simp only [tt, seval]
      exact Sb.refl _
theorem tda_ofQuery {a : Query} (h : szQuery a ≤ 1048576 → Cl Tryz.prog 7 [.ag (csOf a.row)] [] fun r _ => ∃ Fitems Ffrom_ Fwhere_ Forder, r = .ag (told a.row [Fitems, Ffrom_, Fwhere_, Forder])) : szQuery a ≤ 1048576 → Cl Tryz.prog 7 [.ag (csOf a.row)] [] fun r _ => ∃ cs Fs, r = .ag cs ∧ Td cs a.row Fs := fun hs => (h hs).mono fun r _ ⟨Fitems, Ffrom_, Fwhere_, Forder, e⟩ => ⟨_, _, e, told_td _ _ (by
  obtain ⟨distinct, items, from_, where_, order, limit⟩ := a
  simp only [Query.row_mk, List.cons_append, List.nil_append]
  rfl)⟩
theorem tdQuerys_step (a : List Query) (hx : ∀ x ∈ a, szQuery x ≤ 1048576 → Cl Tryz.prog 7 [.ag (csOf x.row)] [] fun r _ => ∃ cs Fs, r = .ag cs ∧ Td cs x.row Fs) (h : szQuerys a ≤ 1048576) : Cl Tryz.prog 126 [.c (.sl a.length (a.flatMap Query.row) none)] [] fun r _ => ∃ Fs, r = .c (.ow 36 a.length (a.flatMap Query.row) (some Fs)) := by
  rw [szQuerys_eq] at h
  have hl : a.length ≤ 1048576 := by omega
  refine cl_of_d follows_mixed true Tryz.func126 rfl (by kernel_rfl) ?_
  simp only [Tryz.f126, tt, seval]
  refine fun _ => ⟨by omega, by omega, by omega, ?_⟩
  refine dLoop.intro (fun f L p => ∃ (i : Nat) (Fs : List (List Nat)), f 4 = vi i ∧ i ≤ a.length ∧ L = [(7, .arr 36 a.length ((a.take i).flatMap Query.row ++ (List.replicate (a.length - i) [bool false, .sl 0 [], .sl 0 [], .sl 0 [], .sl 0 [], int 0]).flatten) (some Fs))] ∧ p = some Fs) (fun f _ _ => (a.length - ixS (f 4)).toNat) [(7, .arr 36 a.length (List.replicate a.length [bool false, .sl 0 [], .sl 0 [], .sl 0 [], .sl 0 [], int 0]).flatten (some []))] (some []) ⟨SubO.cons rfl (SubO.nil _), PoSub.refl _, ?_⟩ ?_
  · simp only [tt, seval]
    exact ⟨0, [], rfl, by omega, by simp, rfl⟩
  · rintro g L p ⟨i, Fs, h4, hi, rfl, rfl⟩
    simp only [tt, seval] at h4
    simp only [tt, seval, h4, Int.ofNat_lt]
    refine fun _ => And.intro (fun hlt => ?_) (fun hge => ?_)
    · have hlt : i < a.length := by omega
      have hts := take_succ_sum szQuery hlt
      obtain ⟨rst', hr'⟩ := take_sum_le szQuery a (i + 1)
      refine ⟨by omega, by omega, _, drop_row Query.row_len (List.getElem?_eq_getElem hlt), Query.ne _ _, ?_⟩
      simp only [tt, seval, h4, Query.tk, Query.row_len]
      refine call0 (hx a[i] (List.getElem_mem hlt) (by omega)) ?_ ?_ ?_
      · decide
      · simp only [tt, seval]
      rintro r ⟨cs, Gs, rfl, ht⟩
      simp only [tt, seval, h4, Query.row_len, ht.exp, ht.obj, ht.dat, ht.fp, ht.flat, ht.good, ht.kill, ht.frz, ht.owns, ht.len]
      refine ⟨by omega, by omega, by rw [fillLen Query.row_len rfl a (by omega)]; omega, ?_⟩
      rw [wrap_id (n := (i : Int) + 1) (by omega) (by omega)]
      exact ⟨_, _, SubO.cons rfl (SubO.nil _), poSub_ap _ _, ⟨i + 1, _, rfl, by omega, congrArg (fun x => [(7, O.arr 36 a.length x (some (apF Fs Gs)))]) (fillRow Query.row_len rfl hlt), rfl⟩, by simp only [ixS]; omega⟩
    · have : i = a.length := by omega
      subst this
      rw [fillLast]
      refine ⟨_, [], ⟨Fs, rfl⟩, endOk ?_⟩
      simp only [tt, seval]
      exact Sb.refl _
theorem ttExpr_step (kind : Int) (op : Int) (not : Bool) (val : Val) (qual : ByteArray) (name : ByteArray) (kids : List Expr) (sub : List Query) (hkids : szExprs kids ≤ 1048576 → Cl Tryz.prog 28 [.c (.sl kids.length (kids.flatMap Expr.row) none)] [] fun r _ => ∃ Fs, r = .c (.ow 114 kids.length (kids.flatMap Expr.row) (some Fs))) (hsub : szQuerys sub ≤ 1048576 → Cl Tryz.prog 126 [.c (.sl sub.length (sub.flatMap Query.row) none)] [] fun r _ => ∃ Fs, r = .c (.ow 36 sub.length (sub.flatMap Query.row) (some Fs))) (h : szExpr (Expr.mk kind op not val qual name kids sub) ≤ 1048576) : Cl Tryz.prog 70 [.ag (csOf (Expr.mk kind op not val qual name kids sub).row)] [] fun r _ => ∃ Fkids Fsub, r = .ag (told (Expr.mk kind op not val qual name kids sub).row [Fkids, Fsub]) := by
  rw [szExpr_mk] at h
  rw [Expr.row_mk]
  refine cl_of_d follows_mixed true Tryz.func70 rfl (by kernel_rfl) ?_
  simp only [Tryz.f70, tt, seval]
  refine call0 (toValue_d val) ?_ ?_ ?_
  · decide
  · simp only [tt, seval, Val.row, List.cons_append, List.nil_append]
  rintro r rfl
  simp only [tt, seval, Val.row, List.cons_append, List.nil_append]
  refine call0 (hkids (by omega)) ?_ ?_ ?_
  · decide
  · simp only [tt, seval, Val.row, List.cons_append, List.nil_append, told]
  rintro r ⟨Fkids, rfl⟩
  simp only [tt, seval, Val.row, List.cons_append, List.nil_append, told]
  refine call0 (hsub (by omega)) ?_ ?_ ?_
  · decide
  · simp only [tt, seval, Val.row, List.cons_append, List.nil_append, told]
  rintro r ⟨Fsub, rfl⟩
  simp only [tt, seval, Val.row, List.cons_append, List.nil_append, told]
  refine fun Gkids Gsub => ?_
  refine ⟨_, [], ⟨Gkids :: Fkids, Gsub :: Fsub, rfl⟩, endOk ?_⟩
  simp only [tt, seval, Val.row, List.cons_append, List.nil_append, told]
  exact pool_ok fun x => by simp only [List.flatten_append, List.flatten_cons, List.flatten_nil, List.count_append, List.append_nil]; omega
theorem ttItem_step (star : Bool) (qual : ByteArray) (e : Expr) (as_ : ByteArray) (he : szExpr e ≤ 1048576 → Cl Tryz.prog 70 [.ag (csOf e.row)] [] fun r _ => ∃ Fkids Fsub, r = .ag (told e.row [Fkids, Fsub])) (h : szItem (Item.mk star qual e as_) ≤ 1048576) : Cl Tryz.prog 68 [.ag (csOf (Item.mk star qual e as_).row)] [] fun r _ => ∃ Fe_kids Fe_sub, r = .ag (told (Item.mk star qual e as_).row [Fe_kids, Fe_sub]) := by
  rw [szItem_mk] at h
  rw [Item.row_mk]
  obtain ⟨e_kind, e_op, e_not, e_val, e_qual, e_name, e_kids, e_sub⟩ := e
  simp only [Expr.row_mk, List.cons_append, List.nil_append]
  refine cl_of_d follows_mixed true Tryz.func68 rfl (by kernel_rfl) ?_
  simp only [Tryz.f68, tt, seval]
  refine call0 (he (by omega)) ?_ ?_ ?_
  · decide
  · simp only [tt, seval, Val.row, List.cons_append, List.nil_append, Expr.row_mk, told]
  rintro r ⟨Fe_kids, Fe_sub, rfl⟩
  simp only [tt, seval, Val.row, List.cons_append, List.nil_append, Expr.row_mk, told]
  refine ⟨_, [], ⟨Fe_kids, Fe_sub, rfl⟩, endOk ?_⟩
  simp only [tt, seval, Val.row, List.cons_append, List.nil_append, Expr.row_mk, told]
  exact pool_ok fun x => by simp only [List.flatten_append, List.flatten_cons, List.flatten_nil, List.count_append, List.append_nil]; omega
theorem ttSource_step (table : ByteArray) (as_ : ByteArray) (on : List Expr) (hon : szExprs on ≤ 1048576 → Cl Tryz.prog 28 [.c (.sl on.length (on.flatMap Expr.row) none)] [] fun r _ => ∃ Fs, r = .c (.ow 114 on.length (on.flatMap Expr.row) (some Fs))) (h : szSource (Source.mk table as_ on) ≤ 1048576) : Cl Tryz.prog 69 [.ag (csOf (Source.mk table as_ on).row)] [] fun r _ => ∃ Fon, r = .ag (told (Source.mk table as_ on).row [Fon]) := by
  rw [szSource_mk] at h
  rw [Source.row_mk]
  refine cl_of_d follows_mixed true Tryz.func69 rfl (by kernel_rfl) ?_
  simp only [Tryz.f69, tt, seval]
  refine call0 (hon (by omega)) ?_ ?_ ?_
  · decide
  · simp only [tt, seval, Val.row, List.cons_append, List.nil_append, told]
  rintro r ⟨Fon, rfl⟩
  simp only [tt, seval, Val.row, List.cons_append, List.nil_append, told]
  refine fun Gon => ?_
  refine ⟨_, [], ⟨Gon :: Fon, rfl⟩, endOk ?_⟩
  simp only [tt, seval, Val.row, List.cons_append, List.nil_append, told]
  exact pool_ok fun x => by simp only [List.flatten_append, List.flatten_cons, List.flatten_nil, List.count_append, List.append_nil]; omega
theorem ttSortKey_step (e : Expr) (desc : Bool) (he : szExpr e ≤ 1048576 → Cl Tryz.prog 70 [.ag (csOf e.row)] [] fun r _ => ∃ Fkids Fsub, r = .ag (told e.row [Fkids, Fsub])) (h : szSortKey (SortKey.mk e desc) ≤ 1048576) : Cl Tryz.prog 71 [.ag (csOf (SortKey.mk e desc).row)] [] fun r _ => ∃ Fe_kids Fe_sub, r = .ag (told (SortKey.mk e desc).row [Fe_kids, Fe_sub]) := by
  rw [szSortKey_mk] at h
  rw [SortKey.row_mk]
  obtain ⟨e_kind, e_op, e_not, e_val, e_qual, e_name, e_kids, e_sub⟩ := e
  simp only [Expr.row_mk, List.cons_append, List.nil_append]
  refine cl_of_d follows_mixed true Tryz.func71 rfl (by kernel_rfl) ?_
  simp only [Tryz.f71, tt, seval]
  refine call0 (he (by omega)) ?_ ?_ ?_
  · decide
  · simp only [tt, seval, Val.row, List.cons_append, List.nil_append, Expr.row_mk, told]
  rintro r ⟨Fe_kids, Fe_sub, rfl⟩
  simp only [tt, seval, Val.row, List.cons_append, List.nil_append, Expr.row_mk, told]
  refine ⟨_, [], ⟨Fe_kids, Fe_sub, rfl⟩, endOk ?_⟩
  simp only [tt, seval, Val.row, List.cons_append, List.nil_append, Expr.row_mk, told]
  exact pool_ok fun x => by simp only [List.flatten_append, List.flatten_cons, List.flatten_nil, List.count_append, List.append_nil]; omega
theorem ttQuery_step (distinct : Bool) (items : List Item) (from_ : List Source) (where_ : List Expr) (order : List SortKey) (limit : Int) (hitems : szItems items ≤ 1048576 → Cl Tryz.prog 26 [.c (.sl items.length (items.flatMap Item.row) none)] [] fun r _ => ∃ Fs, r = .c (.ow 116 items.length (items.flatMap Item.row) (some Fs))) (hfrom_ : szSources from_ ≤ 1048576 → Cl Tryz.prog 27 [.c (.sl from_.length (from_.flatMap Source.row) none)] [] fun r _ => ∃ Fs, r = .c (.ow 124 from_.length (from_.flatMap Source.row) (some Fs))) (hwhere_ : szExprs where_ ≤ 1048576 → Cl Tryz.prog 28 [.c (.sl where_.length (where_.flatMap Expr.row) none)] [] fun r _ => ∃ Fs, r = .c (.ow 114 where_.length (where_.flatMap Expr.row) (some Fs))) (horder : szSortKeys order ≤ 1048576 → Cl Tryz.prog 29 [.c (.sl order.length (order.flatMap SortKey.row) none)] [] fun r _ => ∃ Fs, r = .c (.ow 121 order.length (order.flatMap SortKey.row) (some Fs))) (h : szQuery (Query.mk distinct items from_ where_ order limit) ≤ 1048576) : Cl Tryz.prog 7 [.ag (csOf (Query.mk distinct items from_ where_ order limit).row)] [] fun r _ => ∃ Fitems Ffrom_ Fwhere_ Forder, r = .ag (told (Query.mk distinct items from_ where_ order limit).row [Fitems, Ffrom_, Fwhere_, Forder]) := by
  rw [szQuery_mk] at h
  rw [Query.row_mk]
  refine cl_of_d follows_mixed true Tryz.func7 rfl (by kernel_rfl) ?_
  simp only [Tryz.f7, tt, seval]
  refine call0 (hitems (by omega)) ?_ ?_ ?_
  · decide
  · simp only [tt, seval, Val.row, List.cons_append, List.nil_append, told]
  rintro r ⟨Fitems, rfl⟩
  simp only [tt, seval, Val.row, List.cons_append, List.nil_append, told]
  refine call0 (hfrom_ (by omega)) ?_ ?_ ?_
  · decide
  · simp only [tt, seval, Val.row, List.cons_append, List.nil_append, told]
  rintro r ⟨Ffrom_, rfl⟩
  simp only [tt, seval, Val.row, List.cons_append, List.nil_append, told]
  refine call0 (hwhere_ (by omega)) ?_ ?_ ?_
  · decide
  · simp only [tt, seval, Val.row, List.cons_append, List.nil_append, told]
  rintro r ⟨Fwhere_, rfl⟩
  simp only [tt, seval, Val.row, List.cons_append, List.nil_append, told]
  refine call0 (horder (by omega)) ?_ ?_ ?_
  · decide
  · simp only [tt, seval, Val.row, List.cons_append, List.nil_append, told]
  rintro r ⟨Forder, rfl⟩
  simp only [tt, seval, Val.row, List.cons_append, List.nil_append, told]
  refine fun Gitems Gfrom_ Gwhere_ Gorder => ?_
  refine ⟨_, [], ⟨Gitems :: Fitems, Gfrom_ :: Ffrom_, Gwhere_ :: Fwhere_, Gorder :: Forder, rfl⟩, endOk ?_⟩
  simp only [tt, seval, Val.row, List.cons_append, List.nil_append, told]
  exact pool_ok fun x => by simp only [List.flatten_append, List.flatten_cons, List.flatten_nil, List.count_append, List.append_nil]; omega
theorem ttExpr_all : (∀ a : Expr, szExpr a ≤ 1048576 → Cl Tryz.prog 70 [.ag (csOf a.row)] [] fun r _ => ∃ Fkids Fsub, r = .ag (told a.row [Fkids, Fsub])) ∧ (∀ a : Item, szItem a ≤ 1048576 → Cl Tryz.prog 68 [.ag (csOf a.row)] [] fun r _ => ∃ Fe_kids Fe_sub, r = .ag (told a.row [Fe_kids, Fe_sub])) ∧ (∀ a : Source, szSource a ≤ 1048576 → Cl Tryz.prog 69 [.ag (csOf a.row)] [] fun r _ => ∃ Fon, r = .ag (told a.row [Fon])) ∧ (∀ a : SortKey, szSortKey a ≤ 1048576 → Cl Tryz.prog 71 [.ag (csOf a.row)] [] fun r _ => ∃ Fe_kids Fe_sub, r = .ag (told a.row [Fe_kids, Fe_sub])) ∧ (∀ a : Query, szQuery a ≤ 1048576 → Cl Tryz.prog 7 [.ag (csOf a.row)] [] fun r _ => ∃ Fitems Ffrom_ Fwhere_ Forder, r = .ag (told a.row [Fitems, Ffrom_, Fwhere_, Forder])) := by
  refine Expr.ind ?_ ?_ ?_ ?_ ?_
  · intro kind op not val qual name kids sub hkids hsub
    exact ttExpr_step _ _ _ _ _ _ _ _ (tdExprs_step _ fun x hx => tda_ofExpr (hkids x hx)) (tdQuerys_step _ fun x hx => tda_ofQuery (hsub x hx))
  · intro star qual e as_ he
    exact ttItem_step _ _ _ _ he
  · intro table as_ on hon
    exact ttSource_step _ _ _ (tdExprs_step _ fun x hx => tda_ofExpr (hon x hx))
  · intro e desc he
    exact ttSortKey_step _ _ he
  · intro distinct items from_ where_ order limit hitems hfrom_ hwhere_ horder
    exact ttQuery_step _ _ _ _ _ _ (tdItems_step _ fun x hx => tda_ofItem (hitems x hx)) (tdSources_step _ fun x hx => tda_ofSource (hfrom_ x hx)) (tdExprs_step _ fun x hx => tda_ofExpr (hwhere_ x hx)) (tdSortKeys_step _ fun x hx => tda_ofSortKey (horder x hx))
theorem ttQuery_d (a : Query) (h : szQuery a ≤ 1048576) : Cl Tryz.prog 7 [.ag (csOf a.row)] [] fun r _ => ∃ Fitems Ffrom_ Fwhere_ Forder, r = .ag (told a.row [Fitems, Ffrom_, Fwhere_, Forder]) := ttExpr_all.2.2.2.2 a h
end Go.Proofs.YthhkmmcgjnecbaaGreatDoor
set_option maxRecDepth 8000
namespace Go.Proofs.YthhkmmcgjnecbaaGreatDoor
open Go Go.Dv
open Go.Vc (D shrI xorI andI and255)
open Go.Cv
open Go.Vc (CellF ValsF callable)
def mtLoop : Nat → Int → ByteArray → ByteArray
  | 0, _, s => s
  | n + 1, k, s => if 0 < k then mtLoop n (k.tdiv 10) (⟨#[UInt8.ofNat (48 + k.tmod 10).toNat]⟩ ++ s) else s
def mtext (k : Int) : ByteArray := if k ≤ 0 then ⟨#[109, 48]⟩ else ⟨#[109]⟩ ++ mtLoop k.toNat k ⟨#[]⟩
theorem mtLoop_size : ∀ (n : Nat) (k : Int) (s : ByteArray), 0 ≤ k → ((mtLoop n k s).size : Int) ≤ s.size + k
  | 0, k, s, h => by simp [mtLoop]; omega
  | n + 1, k, s, h => by
    rw [mtLoop]
    split
    · rename_i hk
      have hq0 : 0 ≤ k.tdiv 10 := Int.tdiv_nonneg h (by decide)
      have hq1 : k.tdiv 10 < k := by rw [Int.tdiv_eq_ediv_of_nonneg h]; omega
      have := mtLoop_size n (k.tdiv 10) (⟨#[UInt8.ofNat (48 + k.tmod 10).toNat]⟩ ++ s) hq0
      have hz : (⟨#[UInt8.ofNat (48 + k.tmod 10).toNat]⟩ : ByteArray).size = 1 := rfl
      rw [ByteArray.size_append, hz] at this
      omega
    · omega
theorem mtext_ok {k : Int} (h1 : k ≤ 4611686018427387904) : Go.Vc.okV (.string (mtext k)) := by
  show (mtext k).size ≤ 9223372036854775807
  rw [mtext]
  split
  · exact (by decide : (⟨#[109, 48]⟩ : ByteArray).size ≤ 9223372036854775807)
  · have := mtLoop_size k.toNat k ⟨#[]⟩ (by omega)
    have hz : (⟨#[109]⟩ : ByteArray).size = 1 := rfl
    have hz0 : (⟨#[]⟩ : ByteArray).size = 0 := rfl
    rw [ByteArray.size_append, hz]
    omega
theorem markText_d (k : Int) (h1 : k ≤ 4611686018427387904) : Cl Tryz.prog 41 [vi k] [] fun r _ => r = vs (mtext k) := by
  refine cl_of_d follows_mixed false Tryz.func41 rfl (by kernel_rfl) ?_
  simp only [Tryz.f41, tt, seval]
  refine And.intro (fun h => ?_) (fun h => ?_)
  · exact ⟨_, _, vsE (by rw [mtext, if_pos h]), end0 rfl⟩
  · refine dLoop.intro (fun f L p => ∃ (j : Int) (s : ByteArray) (N : Nat), f 0 = vi j ∧ f 3 = vs s ∧ 0 ≤ j ∧ j ≤ N ∧ s.size + j ≤ k ∧ mtLoop N j s = mtLoop k.toNat k ⟨#[]⟩ ∧ L = [] ∧ p = none) (fun f _ _ => (ixS (f 0)).toNat) [] none ⟨SubO.nil _, PoSub.none _, ?_⟩ ?_
    · simp only [tt, seval]
      refine ⟨k, ⟨#[]⟩, k.toNat, rfl, rfl, by omega, by omega, ?_, rfl⟩
      show ((0 : Nat) : Int) + k ≤ k
      omega
    · rintro g L p ⟨j, s, N, h0, h3, hj, hN, hsz, heq, rfl, rfl⟩
      simp only [tt, seval] at h0 h3
      simp only [tt, seval, h0, h3]
      refine And.intro (fun hlt => ?_) (fun hge => ?_)
      · have hr0 : 0 ≤ j.tmod 10 := Int.tmod_nonneg _ hj
        have hr1 : j.tmod 10 < 10 := Int.tmod_lt_of_pos _ (by decide)
        have hval : IntKind.u8.wrap (IntKind.i64.wrap (48 + j.tmod 10)) = ((UInt8.ofNat (48 + j.tmod 10).toNat).toNat : Int) := by
          rw [wrap_id (by omega) (by omega), IntWalk.u8_in _ (by omega), UInt8.toNat_ofNat']; omega
        refine ⟨by kernel_rfl, by decide, [UInt8.ofNat (48 + j.tmod 10).toNat], rfl, by rw [hval]; rfl, ?_⟩
        simp only [tt, seval, h0, h3]
        have hz : (⟨#[UInt8.ofNat (48 + j.tmod 10).toNat]⟩ : ByteArray).size = 1 := rfl
        have hz' : (⟨[UInt8.ofNat (48 + j.tmod 10).toNat].toArray⟩ : ByteArray).size = 1 := rfl
        rw [pu_sadd (by rw [hz']; omega)]
        simp only [tt, seval, h0, h3]
        have hq0 : 0 ≤ j.tdiv 10 := Int.tdiv_nonneg hj (by decide)
        have hq1 : j.tdiv 10 < j := by rw [Int.tdiv_eq_ediv_of_nonneg hj]; omega
        rw [wrap_id (n := j.tdiv 10) (by omega) (by omega)]
        have hsz2 : ((⟨#[UInt8.ofNat (48 + j.tmod 10).toNat]⟩ : ByteArray) ++ s).size = 1 + s.size := by rw [ByteArray.size_append, hz]
        cases N with
        | zero => exact absurd hlt (by omega)
        | succ N =>
        rw [mtLoop, if_pos hlt] at heq
        exact ⟨[], none, SubO.nil _, PoSub.none _, ⟨_, _, N, rfl, rfl, hq0, by omega, by rw [hsz2]; omega, heq, rfl, rfl⟩, by simp only [ixS]; omega⟩
      · have : j = 0 := by omega
        subst this
        have heq' : s = mtLoop k.toNat k ⟨#[]⟩ := by rw [← heq]; cases N <;> simp [mtLoop]
        have hz : (⟨#[109]⟩ : ByteArray).size = 1 := rfl
        rw [pu_sadd (by rw [hz]; omega)]
        simp only [tt, seval, h0, h3]
        exact ⟨_, _, vsE (by rw [mtext, if_neg h, heq']), end0 rfl⟩
theorem markText_c (k : Int) (w : World) (hg : GlW w (fun _ => False)) (h1 : k ≤ 4611686018427387904) : callable Tryz.prog 41 = true ∧ Calls Tryz.prog 41 #[.int .i64 k] w fun e w' => ∃ v, e = .returned v ∧ v = .string (mtext k) ∧ Gr w w' := by
  obtain ⟨h0, h⟩ := Go.Cv.Cl.at (markText_d k h1) rfl (vs := [.int .i64 k]) (w := w) ⟨⟨rfl, trivial⟩, trivial⟩ hg
  refine ⟨h0, h.mono ?_⟩
  rintro e w' ⟨v, he, r, rfl, hgr, hres⟩
  exact ⟨v, he, hres.val, hgr⟩
section
variable {α : Type} (f : Int → α → α) (c : α → Nat)
def cnL : List α → Nat
  | [] => 0
  | e :: es => c e + cnL es
def mkL : Int → List α → List α
  | _, [] => []
  | k, e :: es => f k e :: mkL (k + c e) es
theorem cnL_app : ∀ (es fs : List α), cnL c (es ++ fs) = cnL c es + cnL c fs
  | [], fs => by simp [cnL]
  | e :: es, fs => by simp [cnL, cnL_app es fs]; omega
theorem mkL_len : ∀ (k : Int) (es : List α), (mkL f c k es).length = es.length
  | _, [] => rfl
  | k, e :: es => by simp [mkL, mkL_len (k + c e) es]
theorem mkL_snoc : ∀ (k : Int) (es : List α) (e : α), mkL f c k (es ++ [e]) = mkL f c k es ++ [f (k + cnL c es) e]
  | k, [], e => by simp [mkL, cnL]
  | k, x :: es, e => by simp [mkL, cnL, mkL_snoc (k + c x) es e]; congr 1; omega
theorem cnL_take_le (es : List α) (i : Nat) : cnL c (es.take i) ≤ cnL c es := by
  have := cnL_app c (es.take i) (es.drop i)
  rw [List.take_append_drop] at this; omega
theorem cnL_take_succ (es : List α) (i : Nat) (h : i < es.length) : cnL c (es.take (i + 1)) = cnL c (es.take i) + c es[i] := by
  rw [List.take_add_one, List.getElem?_eq_getElem h, cnL_app]; simp [cnL]
theorem mkL_take_succ (k : Int) (es : List α) (i : Nat) (h : i < es.length) : mkL f c k (es.take (i + 1)) = mkL f c k (es.take i) ++ [f (k + cnL c (es.take i)) es[i]] := by
  rw [List.take_add_one, List.getElem?_eq_getElem h]; exact mkL_snoc f c _ _ _
theorem mkL_get : ∀ (k : Int) (es : List α) (i : Nat) (h : i < es.length), (mkL f c k es)[i]? = some (f (k + cnL c (es.take i)) es[i])
  | _, [], i, h => by simp at h
  | k, e :: es, 0, h => by simp [mkL, cnL]
  | k, e :: es, i + 1, h => by
    simp only [mkL, List.getElem?_cons_succ, List.take_succ_cons, cnL, List.getElem_cons_succ]
    rw [mkL_get (k + c e) es i (by simpa using h)]
    congr 2; omega
end
def MkC {α : Type} (fn : FuncId) (row : α → List D) (f : Int → α → α) (c : α → Nat) (es : List α) : Prop :=
  ∀ (w : World) (k : Int) (v : Value) (F : List Nat), CellF w (.sl es.length (es.flatMap row)) v F → F.Nodup → OwnL w F → GlW w (fun _ => False) → (∀ t ∈ libVars, t.1 ∉ F) → 0 ≤ k → k + cnL c es ≤ 4611686018427387904 →
    callable Tryz.prog fn = true ∧ Calls Tryz.prog fn #[v, .int .i64 k] w fun e w' => ∃ r, e = .returned r ∧ r = .int .i64 (k + cnL c es) ∧ CellF w' (.sl es.length ((mkL f c k es).flatMap row)) v F ∧ OwnL w' F ∧ ChL F w w'
mutual
def cnExpr : Expr → Nat
  | .mk kind op not val qual name kids sub => 8 + cnExprs kids + cnQuerys sub
def cnItem : Item → Nat
  | .mk star qual (.mk e_kind e_op e_not e_val e_qual e_name e_kids e_sub) as_ => 11 + cnExprs e_kids + cnQuerys e_sub
def cnSource : Source → Nat
  | .mk table as_ on => 2 + cnExprs on
def cnSortKey : SortKey → Nat
  | .mk (.mk e_kind e_op e_not e_val e_qual e_name e_kids e_sub) desc => 9 + cnExprs e_kids + cnQuerys e_sub
def cnQuery : Query → Nat
  | .mk distinct items from_ where_ order limit => 2 + cnItems items + cnSources from_ + cnExprs where_ + cnSortKeys order
def cnExprs : List Expr → Nat
  | [] => 0
  | e :: es => cnExpr e + cnExprs es
def cnItems : List Item → Nat
  | [] => 0
  | e :: es => cnItem e + cnItems es
def cnQuerys : List Query → Nat
  | [] => 0
  | e :: es => cnQuery e + cnQuerys es
def cnSortKeys : List SortKey → Nat
  | [] => 0
  | e :: es => cnSortKey e + cnSortKeys es
def cnSources : List Source → Nat
  | [] => 0
  | e :: es => cnSource e + cnSources es
end
theorem cnExprs_eq : ∀ es, cnExprs es = cnL cnExpr es
  | [] => by simp [cnExprs, cnL]
  | e :: es => by simp [cnExprs, cnL, cnExprs_eq es]
theorem cnItems_eq : ∀ es, cnItems es = cnL cnItem es
  | [] => by simp [cnItems, cnL]
  | e :: es => by simp [cnItems, cnL, cnItems_eq es]
theorem cnQuerys_eq : ∀ es, cnQuerys es = cnL cnQuery es
  | [] => by simp [cnQuerys, cnL]
  | e :: es => by simp [cnQuerys, cnL, cnQuerys_eq es]
theorem cnSortKeys_eq : ∀ es, cnSortKeys es = cnL cnSortKey es
  | [] => by simp [cnSortKeys, cnL]
  | e :: es => by simp [cnSortKeys, cnL, cnSortKeys_eq es]
theorem cnSources_eq : ∀ es, cnSources es = cnL cnSource es
  | [] => by simp [cnSources, cnL]
  | e :: es => by simp [cnSources, cnL, cnSources_eq es]
mutual
def mkExpr : Int → Expr → Expr
  | q, .mk kind op not val qual name kids sub => .mk (q) (q + 1) (decide ((q + 1 + 1).tmod 3 = 0)) ⟨q + 1 + 1 + 1, q + 1 + 1 + 1 + 1, mtext (q + 1 + 1 + 1 + 1 + 1)⟩ (mtext (q + 1 + 1 + 1 + 1 + 1 + 1)) (mtext (q + 1 + 1 + 1 + 1 + 1 + 1 + 1)) (mkExprs (q + 1 + 1 + 1 + 1 + 1 + 1 + 1 + 1) kids) (mkQuerys (q + 1 + 1 + 1 + 1 + 1 + 1 + 1 + 1 + (cnExprs kids : Int)) sub)
def mkItem : Int → Item → Item
  | q, .mk star qual (.mk e_kind e_op e_not e_val e_qual e_name e_kids e_sub) as_ => .mk (decide ((q).tmod 3 = 0)) (mtext (q + 1)) (.mk (q + 1 + 1) (q + 1 + 1 + 1) (decide ((q + 1 + 1 + 1 + 1).tmod 3 = 0)) ⟨q + 1 + 1 + 1 + 1 + 1, q + 1 + 1 + 1 + 1 + 1 + 1, mtext (q + 1 + 1 + 1 + 1 + 1 + 1 + 1)⟩ (mtext (q + 1 + 1 + 1 + 1 + 1 + 1 + 1 + 1)) (mtext (q + 1 + 1 + 1 + 1 + 1 + 1 + 1 + 1 + 1)) (mkExprs (q + 1 + 1 + 1 + 1 + 1 + 1 + 1 + 1 + 1 + 1) e_kids) (mkQuerys (q + 1 + 1 + 1 + 1 + 1 + 1 + 1 + 1 + 1 + 1 + (cnExprs e_kids : Int)) e_sub)) (mtext (q + 1 + 1 + 1 + 1 + 1 + 1 + 1 + 1 + 1 + 1 + (cnExprs e_kids : Int) + (cnQuerys e_sub : Int)))
def mkSource : Int → Source → Source
  | q, .mk table as_ on => .mk (mtext (q)) (mtext (q + 1)) (mkExprs (q + 1 + 1) on)
def mkSortKey : Int → SortKey → SortKey
  | q, .mk (.mk e_kind e_op e_not e_val e_qual e_name e_kids e_sub) desc => .mk (.mk (q) (q + 1) (decide ((q + 1 + 1).tmod 3 = 0)) ⟨q + 1 + 1 + 1, q + 1 + 1 + 1 + 1, mtext (q + 1 + 1 + 1 + 1 + 1)⟩ (mtext (q + 1 + 1 + 1 + 1 + 1 + 1)) (mtext (q + 1 + 1 + 1 + 1 + 1 + 1 + 1)) (mkExprs (q + 1 + 1 + 1 + 1 + 1 + 1 + 1 + 1) e_kids) (mkQuerys (q + 1 + 1 + 1 + 1 + 1 + 1 + 1 + 1 + (cnExprs e_kids : Int)) e_sub)) (decide ((q + 1 + 1 + 1 + 1 + 1 + 1 + 1 + 1 + (cnExprs e_kids : Int) + (cnQuerys e_sub : Int)).tmod 3 = 0))
def mkQuery : Int → Query → Query
  | q, .mk distinct items from_ where_ order limit => .mk (decide ((q).tmod 3 = 0)) (mkItems (q + 1) items) (mkSources (q + 1 + (cnItems items : Int)) from_) (mkExprs (q + 1 + (cnItems items : Int) + (cnSources from_ : Int)) where_) (mkSortKeys (q + 1 + (cnItems items : Int) + (cnSources from_ : Int) + (cnExprs where_ : Int)) order) (q + 1 + (cnItems items : Int) + (cnSources from_ : Int) + (cnExprs where_ : Int) + (cnSortKeys order : Int))
def mkExprs : Int → List Expr → List Expr
  | _, [] => []
  | q, e :: es => mkExpr q e :: mkExprs (q + cnExpr e) es
def mkItems : Int → List Item → List Item
  | _, [] => []
  | q, e :: es => mkItem q e :: mkItems (q + cnItem e) es
def mkQuerys : Int → List Query → List Query
  | _, [] => []
  | q, e :: es => mkQuery q e :: mkQuerys (q + cnQuery e) es
def mkSortKeys : Int → List SortKey → List SortKey
  | _, [] => []
  | q, e :: es => mkSortKey q e :: mkSortKeys (q + cnSortKey e) es
def mkSources : Int → List Source → List Source
  | _, [] => []
  | q, e :: es => mkSource q e :: mkSources (q + cnSource e) es
end
theorem mkExprs_eq : ∀ q es, mkExprs q es = mkL mkExpr cnExpr q es
  | q, [] => by simp [mkExprs, mkL]
  | q, e :: es => by simp [mkExprs, mkL, mkExprs_eq _ es]
theorem mkItems_eq : ∀ q es, mkItems q es = mkL mkItem cnItem q es
  | q, [] => by simp [mkItems, mkL]
  | q, e :: es => by simp [mkItems, mkL, mkItems_eq _ es]
theorem mkQuerys_eq : ∀ q es, mkQuerys q es = mkL mkQuery cnQuery q es
  | q, [] => by simp [mkQuerys, mkL]
  | q, e :: es => by simp [mkQuerys, mkL, mkQuerys_eq _ es]
theorem mkSortKeys_eq : ∀ q es, mkSortKeys q es = mkL mkSortKey cnSortKey q es
  | q, [] => by simp [mkSortKeys, mkL]
  | q, e :: es => by simp [mkSortKeys, mkL, mkSortKeys_eq _ es]
theorem mkSources_eq : ∀ q es, mkSources q es = mkL mkSource cnSource q es
  | q, [] => by simp [mkSources, mkL]
  | q, e :: es => by simp [mkSources, mkL, mkSources_eq _ es]
theorem cnExpr_mk (kind : Int) (op : Int) (not : Bool) (val : Val) (qual : ByteArray) (name : ByteArray) (kids : List Expr) (sub : List Query) : cnExpr (.mk kind op not val qual name kids sub) = 8 + cnL cnExpr kids + cnL cnQuery sub := by simp only [cnExpr, cnExprs_eq, cnItems_eq, cnQuerys_eq, cnSortKeys_eq, cnSources_eq, mkExprs_eq, mkItems_eq, mkQuerys_eq, mkSortKeys_eq, mkSources_eq]
theorem mkExpr_mk (q : Int) (kind : Int) (op : Int) (not : Bool) (val : Val) (qual : ByteArray) (name : ByteArray) (kids : List Expr) (sub : List Query) : mkExpr q (.mk kind op not val qual name kids sub) = .mk (q) (q + 1) (decide ((q + 1 + 1).tmod 3 = 0)) ⟨q + 1 + 1 + 1, q + 1 + 1 + 1 + 1, mtext (q + 1 + 1 + 1 + 1 + 1)⟩ (mtext (q + 1 + 1 + 1 + 1 + 1 + 1)) (mtext (q + 1 + 1 + 1 + 1 + 1 + 1 + 1)) (mkL mkExpr cnExpr (q + 1 + 1 + 1 + 1 + 1 + 1 + 1 + 1) kids) (mkL mkQuery cnQuery (q + 1 + 1 + 1 + 1 + 1 + 1 + 1 + 1 + (cnL cnExpr kids : Int)) sub) := by simp only [mkExpr, cnExprs_eq, cnItems_eq, cnQuerys_eq, cnSortKeys_eq, cnSources_eq, mkExprs_eq, mkItems_eq, mkQuerys_eq, mkSortKeys_eq, mkSources_eq]
theorem cnItem_mk (star : Bool) (qual : ByteArray) (e_kind : Int) (e_op : Int) (e_not : Bool) (e_val : Val) (e_qual : ByteArray) (e_name : ByteArray) (e_kids : List Expr) (e_sub : List Query) (as_ : ByteArray) : cnItem (.mk star qual (.mk e_kind e_op e_not e_val e_qual e_name e_kids e_sub) as_) = 11 + cnL cnExpr e_kids + cnL cnQuery e_sub := by simp only [cnItem, cnExprs_eq, cnItems_eq, cnQuerys_eq, cnSortKeys_eq, cnSources_eq, mkExprs_eq, mkItems_eq, mkQuerys_eq, mkSortKeys_eq, mkSources_eq]
theorem mkItem_mk (q : Int) (star : Bool) (qual : ByteArray) (e_kind : Int) (e_op : Int) (e_not : Bool) (e_val : Val) (e_qual : ByteArray) (e_name : ByteArray) (e_kids : List Expr) (e_sub : List Query) (as_ : ByteArray) : mkItem q (.mk star qual (.mk e_kind e_op e_not e_val e_qual e_name e_kids e_sub) as_) = .mk (decide ((q).tmod 3 = 0)) (mtext (q + 1)) (.mk (q + 1 + 1) (q + 1 + 1 + 1) (decide ((q + 1 + 1 + 1 + 1).tmod 3 = 0)) ⟨q + 1 + 1 + 1 + 1 + 1, q + 1 + 1 + 1 + 1 + 1 + 1, mtext (q + 1 + 1 + 1 + 1 + 1 + 1 + 1)⟩ (mtext (q + 1 + 1 + 1 + 1 + 1 + 1 + 1 + 1)) (mtext (q + 1 + 1 + 1 + 1 + 1 + 1 + 1 + 1 + 1)) (mkL mkExpr cnExpr (q + 1 + 1 + 1 + 1 + 1 + 1 + 1 + 1 + 1 + 1) e_kids) (mkL mkQuery cnQuery (q + 1 + 1 + 1 + 1 + 1 + 1 + 1 + 1 + 1 + 1 + (cnL cnExpr e_kids : Int)) e_sub)) (mtext (q + 1 + 1 + 1 + 1 + 1 + 1 + 1 + 1 + 1 + 1 + (cnL cnExpr e_kids : Int) + (cnL cnQuery e_sub : Int))) := by simp only [mkItem, cnExprs_eq, cnItems_eq, cnQuerys_eq, cnSortKeys_eq, cnSources_eq, mkExprs_eq, mkItems_eq, mkQuerys_eq, mkSortKeys_eq, mkSources_eq]
theorem cnSource_mk (table : ByteArray) (as_ : ByteArray) (on : List Expr) : cnSource (.mk table as_ on) = 2 + cnL cnExpr on := by simp only [cnSource, cnExprs_eq, cnItems_eq, cnQuerys_eq, cnSortKeys_eq, cnSources_eq, mkExprs_eq, mkItems_eq, mkQuerys_eq, mkSortKeys_eq, mkSources_eq]
theorem mkSource_mk (q : Int) (table : ByteArray) (as_ : ByteArray) (on : List Expr) : mkSource q (.mk table as_ on) = .mk (mtext (q)) (mtext (q + 1)) (mkL mkExpr cnExpr (q + 1 + 1) on) := by simp only [mkSource, cnExprs_eq, cnItems_eq, cnQuerys_eq, cnSortKeys_eq, cnSources_eq, mkExprs_eq, mkItems_eq, mkQuerys_eq, mkSortKeys_eq, mkSources_eq]
theorem cnSortKey_mk (e_kind : Int) (e_op : Int) (e_not : Bool) (e_val : Val) (e_qual : ByteArray) (e_name : ByteArray) (e_kids : List Expr) (e_sub : List Query) (desc : Bool) : cnSortKey (.mk (.mk e_kind e_op e_not e_val e_qual e_name e_kids e_sub) desc) = 9 + cnL cnExpr e_kids + cnL cnQuery e_sub := by simp only [cnSortKey, cnExprs_eq, cnItems_eq, cnQuerys_eq, cnSortKeys_eq, cnSources_eq, mkExprs_eq, mkItems_eq, mkQuerys_eq, mkSortKeys_eq, mkSources_eq]
theorem mkSortKey_mk (q : Int) (e_kind : Int) (e_op : Int) (e_not : Bool) (e_val : Val) (e_qual : ByteArray) (e_name : ByteArray) (e_kids : List Expr) (e_sub : List Query) (desc : Bool) : mkSortKey q (.mk (.mk e_kind e_op e_not e_val e_qual e_name e_kids e_sub) desc) = .mk (.mk (q) (q + 1) (decide ((q + 1 + 1).tmod 3 = 0)) ⟨q + 1 + 1 + 1, q + 1 + 1 + 1 + 1, mtext (q + 1 + 1 + 1 + 1 + 1)⟩ (mtext (q + 1 + 1 + 1 + 1 + 1 + 1)) (mtext (q + 1 + 1 + 1 + 1 + 1 + 1 + 1)) (mkL mkExpr cnExpr (q + 1 + 1 + 1 + 1 + 1 + 1 + 1 + 1) e_kids) (mkL mkQuery cnQuery (q + 1 + 1 + 1 + 1 + 1 + 1 + 1 + 1 + (cnL cnExpr e_kids : Int)) e_sub)) (decide ((q + 1 + 1 + 1 + 1 + 1 + 1 + 1 + 1 + (cnL cnExpr e_kids : Int) + (cnL cnQuery e_sub : Int)).tmod 3 = 0)) := by simp only [mkSortKey, cnExprs_eq, cnItems_eq, cnQuerys_eq, cnSortKeys_eq, cnSources_eq, mkExprs_eq, mkItems_eq, mkQuerys_eq, mkSortKeys_eq, mkSources_eq]
theorem cnQuery_mk (distinct : Bool) (items : List Item) (from_ : List Source) (where_ : List Expr) (order : List SortKey) (limit : Int) : cnQuery (.mk distinct items from_ where_ order limit) = 2 + cnL cnItem items + cnL cnSource from_ + cnL cnExpr where_ + cnL cnSortKey order := by simp only [cnQuery, cnExprs_eq, cnItems_eq, cnQuerys_eq, cnSortKeys_eq, cnSources_eq, mkExprs_eq, mkItems_eq, mkQuerys_eq, mkSortKeys_eq, mkSources_eq]
theorem mkQuery_mk (q : Int) (distinct : Bool) (items : List Item) (from_ : List Source) (where_ : List Expr) (order : List SortKey) (limit : Int) : mkQuery q (.mk distinct items from_ where_ order limit) = .mk (decide ((q).tmod 3 = 0)) (mkL mkItem cnItem (q + 1) items) (mkL mkSource cnSource (q + 1 + (cnL cnItem items : Int)) from_) (mkL mkExpr cnExpr (q + 1 + (cnL cnItem items : Int) + (cnL cnSource from_ : Int)) where_) (mkL mkSortKey cnSortKey (q + 1 + (cnL cnItem items : Int) + (cnL cnSource from_ : Int) + (cnL cnExpr where_ : Int)) order) (q + 1 + (cnL cnItem items : Int) + (cnL cnSource from_ : Int) + (cnL cnExpr where_ : Int) + (cnL cnSortKey order : Int)) := by simp only [mkQuery, cnExprs_eq, cnItems_eq, cnQuerys_eq, cnSortKeys_eq, cnSources_eq, mkExprs_eq, mkItems_eq, mkQuerys_eq, mkSortKeys_eq, mkSources_eq]
def MkExpr : Expr → Prop
  | .mk _ _ _ _ _ _ kids sub => MkC 39 Expr.row mkExpr cnExpr kids ∧ MkC 90 Query.row mkQuery cnQuery sub
def MkItem : Item → Prop
  | .mk _ _ e _ => MkExpr e
def MkSource : Source → Prop
  | .mk _ _ on => MkC 39 Expr.row mkExpr cnExpr on
def MkSortKey : SortKey → Prop
  | .mk e _ => MkExpr e
def MkQuery : Query → Prop
  | .mk _ items from_ where_ order _ => MkC 37 Item.row mkItem cnItem items ∧ MkC 38 Source.row mkSource cnSource from_ ∧ MkC 39 Expr.row mkExpr cnExpr where_ ∧ MkC 40 SortKey.row mkSortKey cnSortKey order
set_option maxHeartbeats 8000000 in
theorem markExprs_step (es : List Expr) (hx : ∀ e ∈ es, MkExpr e) : MkC 39 Expr.row mkExpr cnExpr es := by
  intro w k v F h hn ho hg hlib h0 h1
  obtain ⟨a, cap, rfl, hcap, hmax, hz⟩ := h.slice
  have hmax' : cap ≤ 9223372036854775807 := hmax
  have hM := Mrk.start h hn ho
  clear h hn ho
  refine ⟨by kernel_rfl, calls_of_c (vs := [.slice a es.length cap, .int .i64 k]) Tryz.func39 rfl (Nat.le_of_ble_eq_true rfl) ?_⟩
  simp (maxSteps := 10000000) only [tt, c, cl, cg0, cg1, cOp, cCall, cLoad, cLoadA, cStore, cLoop, cEnd, cRet, argsV, regsV, Go.Vc.oneCell, Nat.add_zero, seval, Tryz.f39]
  refine ⟨fun f w1 => ∃ i : Nat, f 5 = vi i ∧ f 1 = vi (k + cnL cnExpr (es.take i)) ∧ i ≤ es.length ∧ Mrk w F w1 a ((mkL mkExpr cnExpr k (es.take i)).flatMap Expr.row) ((es.drop i).flatMap Expr.row), fun f _ => (es.length - ixS (f 5)).toNat, ?_, ?_⟩
  · simp (maxSteps := 10000000) only [tt, c, cl, cg0, cg1, cOp, cCall, cLoad, cLoadA, cStore, cLoop, cEnd, cRet, argsV, regsV, Go.Vc.oneCell, Nat.add_zero, seval]
    exact ⟨0, rfl, viE (by simp [cnL]), by omega, by simpa [mkL] using hM⟩
  · rintro g w0 ⟨i, h5, h1', hi, hM⟩
    simp (maxSteps := 10000000) only [tt, c, cl, cg0, cg1, cOp, cCall, cLoad, cLoadA, cStore, cLoop, cEnd, cRet, argsV, regsV, Go.Vc.oneCell, Nat.add_zero, seval] at h5 h1'
    simp (maxSteps := 10000000) only [tt, c, cl, cg0, cg1, cOp, cCall, cLoad, cLoadA, cStore, cLoop, cEnd, cRet, argsV, regsV, Go.Vc.oneCell, Nat.add_zero, seval, h5, h1', Int.ofNat_lt]
    refine And.intro (fun hlt => ?_) (fun hge => ?_)
    · have hlt : i < es.length := by omega
      have hd : es.drop i = es[i] :: es.drop (i + 1) := List.drop_eq_getElem_cons hlt
      have hks := cnL_take_succ cnExpr es i hlt
      have hkl := cnL_take_le cnExpr es (i + 1)
      have hts := mkL_take_succ mkExpr cnExpr k es i hlt
      have hdl : ((mkL mkExpr cnExpr k (es.take i)).flatMap Expr.row).length = i * 10 := by rw [flatMap_len Expr.row_len, mkL_len, List.length_take]; congr 1; omega
      rw [hd, List.flatMap_cons] at hM
      generalize hk0 : k + (cnL cnExpr (es.take i) : Int) = k0 at *
      generalize hdone : (mkL mkExpr cnExpr k (es.take i)).flatMap Expr.row = done at *
      obtain ⟨e, he⟩ : ∃ e, es[i] = e := ⟨_, rfl⟩
      rw [he] at hks hts hM
      have hxe := hx _ (List.getElem_mem hlt)
      rw [he] at hxe
      obtain ⟨kind, op, not, val, qual, name, kids, sub⟩ := e
      obtain ⟨Hkids, Hsub⟩ := hxe
      rw [cnExpr_mk] at hks
      simp only [Expr.row_mk, List.cons_append, List.nil_append, Val.row] at hM
      obtain ⟨b, o, rfl, hM0⟩ := hM.open (by simp)
      clear hM
      have hc0 := hM0.chl
      obtain ⟨q0, z0, w1, e0, hM1⟩ := Mrk1.st hM0 (o + i * 10) (.int .i64 k0) (by simp [hdl]; try omega) trivial
      have hc1 := hM1.chl
      refine ⟨by omega, by omega, q0, z0, w1, e0, Stp.go ?_⟩
      simp (maxSteps := 10000000) only [tt, c, cl, cg0, cg1, cOp, cCall, cLoad, cLoadA, cStore, cLoop, cEnd, cRet, argsV, regsV, Go.Vc.oneCell, Nat.add_zero, seval, h5, h1']
      rw [wrap_id (n := k0 + 1) (by omega) (by omega)]
      generalize hk1 : k0 + 1 = k1 at *
      obtain ⟨q1, z1, w2, e1, hM2⟩ := Mrk1.st hM1 (o + i * 10 + 1) (.int .i64 k1) (by simp [hdl]; try omega) trivial
      have hc2 := hM2.chl
      refine ⟨by omega, by omega, q1, z1, w2, e1, Stp.go ?_⟩
      simp (maxSteps := 10000000) only [tt, c, cl, cg0, cg1, cOp, cCall, cLoad, cLoadA, cStore, cLoop, cEnd, cRet, argsV, regsV, Go.Vc.oneCell, Nat.add_zero, seval, h5, h1']
      rw [wrap_id (n := k1 + 1) (by omega) (by omega)]
      generalize hk2 : k1 + 1 = k2 at *
      obtain ⟨q2, z2, w3, e2, hM3⟩ := Mrk1.st hM2 (o + i * 10 + 2) (.bool (decide (k2.tmod 3 = 0))) (by simp [hdl]; try omega) trivial
      have hc3 := hM3.chl
      refine ⟨by omega, by omega, q2, z2, w3, e2, Stp.go ?_⟩
      simp (maxSteps := 10000000) only [tt, c, cl, cg0, cg1, cOp, cCall, cLoad, cLoadA, cStore, cLoop, cEnd, cRet, argsV, regsV, Go.Vc.oneCell, Nat.add_zero, seval, h5, h1']
      rw [wrap_id (n := k2 + 1) (by omega) (by omega)]
      generalize hk3 : k2 + 1 = k3 at *
      obtain ⟨q3, z3, w4, e3, hM4⟩ := Mrk1.st hM3 (o + i * 10 + 3) (.int .i64 k3) (by simp [hdl]; try omega) trivial
      have hc4 := hM4.chl
      refine ⟨by omega, by omega, q3, z3, w4, e3, Stp.go ?_⟩
      simp (maxSteps := 10000000) only [tt, c, cl, cg0, cg1, cOp, cCall, cLoad, cLoadA, cStore, cLoop, cEnd, cRet, argsV, regsV, Go.Vc.oneCell, Nat.add_zero, seval, h5, h1']
      rw [wrap_id (n := k3 + 1) (by omega) (by omega)]
      generalize hk4 : k3 + 1 = k4 at *
      obtain ⟨q4, z4, w5, e4, hM5⟩ := Mrk1.st hM4 (o + i * 10 + 4) (.int .i64 k4) (by simp [hdl]; try omega) trivial
      have hc5 := hM5.chl
      refine ⟨by omega, by omega, q4, z4, w5, e4, Stp.go ?_⟩
      simp (maxSteps := 10000000) only [tt, c, cl, cg0, cg1, cOp, cCall, cLoad, cLoadA, cStore, cLoop, cEnd, cRet, argsV, regsV, Go.Vc.oneCell, Nat.add_zero, seval, h5, h1']
      rw [wrap_id (n := k4 + 1) (by omega) (by omega)]
      generalize hk5 : k4 + 1 = k5 at *
      obtain ⟨hcb5, hcl5⟩ := markText_c k5 w5 (glw_chl hc5 hg hlib) (by omega)
      refine ⟨hcb5, _, hcl5, ?_⟩
      rintro _ w6 ⟨rfl, hgr5⟩
      replace hM6 := hM5.grow hgr5
      have hc6 := hM6.chl
      refine Stp.go ?_
      simp (maxSteps := 10000000) only [tt, c, cl, cg0, cg1, cOp, cCall, cLoad, cLoadA, cStore, cLoop, cEnd, cRet, argsV, regsV, Go.Vc.oneCell, Nat.add_zero, seval, h5, h1']
      obtain ⟨q5, z5, w7, e6, hM7⟩ := Mrk1.st hM6 (o + i * 10 + 5) (.string (mtext k5)) (by simp [hdl]; try omega) (mtext_ok (by omega))
      have hc7 := hM7.chl
      refine ⟨by omega, by omega, q5, z5, w7, e6, Stp.go ?_⟩
      simp (maxSteps := 10000000) only [tt, c, cl, cg0, cg1, cOp, cCall, cLoad, cLoadA, cStore, cLoop, cEnd, cRet, argsV, regsV, Go.Vc.oneCell, Nat.add_zero, seval, h5, h1']
      rw [wrap_id (n := k5 + 1) (by omega) (by omega)]
      generalize hk6 : k5 + 1 = k6 at *
      obtain ⟨hcb6, hcl6⟩ := markText_c k6 w7 (glw_chl hc7 hg hlib) (by omega)
      refine ⟨hcb6, _, hcl6, ?_⟩
      rintro _ w8 ⟨rfl, hgr7⟩
      replace hM8 := hM7.grow hgr7
      have hc8 := hM8.chl
      refine Stp.go ?_
      simp (maxSteps := 10000000) only [tt, c, cl, cg0, cg1, cOp, cCall, cLoad, cLoadA, cStore, cLoop, cEnd, cRet, argsV, regsV, Go.Vc.oneCell, Nat.add_zero, seval, h5, h1']
      obtain ⟨q6, z6, w9, e8, hM9⟩ := Mrk1.st hM8 (o + i * 10 + 6) (.string (mtext k6)) (by simp [hdl]; try omega) (mtext_ok (by omega))
      have hc9 := hM9.chl
      refine ⟨by omega, by omega, q6, z6, w9, e8, Stp.go ?_⟩
      simp (maxSteps := 10000000) only [tt, c, cl, cg0, cg1, cOp, cCall, cLoad, cLoadA, cStore, cLoop, cEnd, cRet, argsV, regsV, Go.Vc.oneCell, Nat.add_zero, seval, h5, h1']
      rw [wrap_id (n := k6 + 1) (by omega) (by omega)]
      generalize hk7 : k6 + 1 = k7 at *
      obtain ⟨hcb7, hcl7⟩ := markText_c k7 w9 (glw_chl hc9 hg hlib) (by omega)
      refine ⟨hcb7, _, hcl7, ?_⟩
      rintro _ w10 ⟨rfl, hgr9⟩
      replace hM10 := hM9.grow hgr9
      have hc10 := hM10.chl
      refine Stp.go ?_
      simp (maxSteps := 10000000) only [tt, c, cl, cg0, cg1, cOp, cCall, cLoad, cLoadA, cStore, cLoop, cEnd, cRet, argsV, regsV, Go.Vc.oneCell, Nat.add_zero, seval, h5, h1']
      obtain ⟨q7, z7, w11, e10, hM11⟩ := Mrk1.st hM10 (o + i * 10 + 7) (.string (mtext k7)) (by simp [hdl]; try omega) (mtext_ok (by omega))
      have hc11 := hM11.chl
      refine ⟨by omega, by omega, q7, z7, w11, e10, Stp.go ?_⟩
      simp (maxSteps := 10000000) only [tt, c, cl, cg0, cg1, cOp, cCall, cLoad, cLoadA, cStore, cLoop, cEnd, cRet, argsV, regsV, Go.Vc.oneCell, Nat.add_zero, seval, h5, h1']
      rw [wrap_id (n := k7 + 1) (by omega) (by omega)]
      generalize hk8 : k7 + 1 = k8 at *
      obtain ⟨v8, G8, hv8, hd8, nd8, ow8, sb8, nx8⟩ := Mrk1.load hM11 (p := o + i * 10 + 8) (by simp [hdl]; try omega)
      refine ⟨by omega, by omega, _, hv8, ?_⟩
      obtain ⟨hcb8, hcl8⟩ := Hkids w11 k8 v8 G8 hd8 nd8 ow8 (glw_chl hc11 hg hlib) (fun t ht hm => hlib t ht (sb8 _ hm)) (by omega) (by omega)
      refine ⟨hcb8, _, hcl8, ?_⟩
      rintro _ w12 ⟨rfl, cd8, ow8', cg8⟩
      have hM12 := nx8 _ _ cg8 cd8 ow8'
      have hc12 := hM12.chl
      refine Stp.go ?_
      simp (maxSteps := 10000000) only [tt, c, cl, cg0, cg1, cOp, cCall, cLoad, cLoadA, cStore, cLoop, cEnd, cRet, argsV, regsV, Go.Vc.oneCell, Nat.add_zero, seval, h5, h1']
      generalize hk9 : k8 + (cnL cnExpr kids : Int) = k9 at *
      obtain ⟨v9, G9, hv9, hd9, nd9, ow9, sb9, nx9⟩ := Mrk1.load hM12 (p := o + i * 10 + 9) (by simp [hdl]; try omega)
      refine ⟨by omega, by omega, _, hv9, ?_⟩
      obtain ⟨hcb9, hcl9⟩ := Hsub w12 k9 v9 G9 hd9 nd9 ow9 (glw_chl hc12 hg hlib) (fun t ht hm => hlib t ht (sb9 _ hm)) (by omega) (by omega)
      refine ⟨hcb9, _, hcl9, ?_⟩
      rintro _ w13 ⟨rfl, cd9, ow9', cg9⟩
      have hM13 := nx9 _ _ cg9 cd9 ow9'
      have hc13 := hM13.chl
      refine Stp.go ?_
      simp (maxSteps := 10000000) only [tt, c, cl, cg0, cg1, cOp, cCall, cLoad, cLoadA, cStore, cLoop, cEnd, cRet, argsV, regsV, Go.Vc.oneCell, Nat.add_zero, seval, h5, h1']
      generalize hk10 : k9 + (cnL cnQuery sub : Int) = k10 at *
      rw [wrap_id (n := (i : Int) + 1) (by omega) (by omega)]
      refine ⟨⟨i + 1, rfl, viE (by rw [hks]; omega), by omega, ?_⟩, by simp only [ixS]; omega⟩
      rw [hts, List.flatMap_append]
      have := hM13.close
      rw [hdone]
      simpa [mkExpr_mk, Expr.row_mk, List.cons_append, List.nil_append, Val.row, hk1, hk2, hk3, hk4, hk5, hk6, hk7, hk8, hk9, hk10, mkL_len, int, bool, str] using this
    · have : i = es.length := by omega
      subst this
      rw [List.take_length, List.drop_length] at hM
      obtain ⟨hc, ho, hcg⟩ := hM.done hcap hmax hz
      exact ⟨by rw [List.take_length], hc, ho, hcg⟩
set_option maxHeartbeats 8000000 in
theorem markItems_step (es : List Item) (hx : ∀ e ∈ es, MkItem e) : MkC 37 Item.row mkItem cnItem es := by
  intro w k v F h hn ho hg hlib h0 h1
  obtain ⟨a, cap, rfl, hcap, hmax, hz⟩ := h.slice
  have hmax' : cap ≤ 9223372036854775807 := hmax
  have hM := Mrk.start h hn ho
  clear h hn ho
  refine ⟨by kernel_rfl, calls_of_c (vs := [.slice a es.length cap, .int .i64 k]) Tryz.func37 rfl (Nat.le_of_ble_eq_true rfl) ?_⟩
  simp (maxSteps := 10000000) only [tt, c, cl, cg0, cg1, cOp, cCall, cLoad, cLoadA, cStore, cLoop, cEnd, cRet, argsV, regsV, Go.Vc.oneCell, Nat.add_zero, seval, Tryz.f37]
  refine ⟨fun f w1 => ∃ i : Nat, f 5 = vi i ∧ f 1 = vi (k + cnL cnItem (es.take i)) ∧ i ≤ es.length ∧ Mrk w F w1 a ((mkL mkItem cnItem k (es.take i)).flatMap Item.row) ((es.drop i).flatMap Item.row), fun f _ => (es.length - ixS (f 5)).toNat, ?_, ?_⟩
  · simp (maxSteps := 10000000) only [tt, c, cl, cg0, cg1, cOp, cCall, cLoad, cLoadA, cStore, cLoop, cEnd, cRet, argsV, regsV, Go.Vc.oneCell, Nat.add_zero, seval]
    exact ⟨0, rfl, viE (by simp [cnL]), by omega, by simpa [mkL] using hM⟩
  · rintro g w0 ⟨i, h5, h1', hi, hM⟩
    simp (maxSteps := 10000000) only [tt, c, cl, cg0, cg1, cOp, cCall, cLoad, cLoadA, cStore, cLoop, cEnd, cRet, argsV, regsV, Go.Vc.oneCell, Nat.add_zero, seval] at h5 h1'
    simp (maxSteps := 10000000) only [tt, c, cl, cg0, cg1, cOp, cCall, cLoad, cLoadA, cStore, cLoop, cEnd, cRet, argsV, regsV, Go.Vc.oneCell, Nat.add_zero, seval, h5, h1', Int.ofNat_lt]
    refine And.intro (fun hlt => ?_) (fun hge => ?_)
    · have hlt : i < es.length := by omega
      have hd : es.drop i = es[i] :: es.drop (i + 1) := List.drop_eq_getElem_cons hlt
      have hks := cnL_take_succ cnItem es i hlt
      have hkl := cnL_take_le cnItem es (i + 1)
      have hts := mkL_take_succ mkItem cnItem k es i hlt
      have hdl : ((mkL mkItem cnItem k (es.take i)).flatMap Item.row).length = i * 13 := by rw [flatMap_len Item.row_len, mkL_len, List.length_take]; congr 1; omega
      rw [hd, List.flatMap_cons] at hM
      generalize hk0 : k + (cnL cnItem (es.take i) : Int) = k0 at *
      generalize hdone : (mkL mkItem cnItem k (es.take i)).flatMap Item.row = done at *
      obtain ⟨e, he⟩ : ∃ e, es[i] = e := ⟨_, rfl⟩
      rw [he] at hks hts hM
      have hxe := hx _ (List.getElem_mem hlt)
      rw [he] at hxe
      obtain ⟨star, qual, ⟨e_kind, e_op, e_not, e_val, e_qual, e_name, e_kids, e_sub⟩, as_⟩ := e
      obtain ⟨He_kids, He_sub⟩ := hxe
      rw [cnItem_mk] at hks
      simp only [Expr.row_mk, Item.row_mk, List.cons_append, List.nil_append, Val.row] at hM
      obtain ⟨b, o, rfl, hM0⟩ := hM.open (by simp)
      clear hM
      have hc0 := hM0.chl
      obtain ⟨q0, z0, w1, e0, hM1⟩ := Mrk1.st hM0 (o + i * 13) (.bool (decide (k0.tmod 3 = 0))) (by simp [hdl]; try omega) trivial
      have hc1 := hM1.chl
      refine ⟨by omega, by omega, q0, z0, w1, e0, Stp.go ?_⟩
      simp (maxSteps := 10000000) only [tt, c, cl, cg0, cg1, cOp, cCall, cLoad, cLoadA, cStore, cLoop, cEnd, cRet, argsV, regsV, Go.Vc.oneCell, Nat.add_zero, seval, h5, h1']
      rw [wrap_id (n := k0 + 1) (by omega) (by omega)]
      generalize hk1 : k0 + 1 = k1 at *
      obtain ⟨hcb1, hcl1⟩ := markText_c k1 w1 (glw_chl hc1 hg hlib) (by omega)
      refine ⟨hcb1, _, hcl1, ?_⟩
      rintro _ w2 ⟨rfl, hgr1⟩
      replace hM2 := hM1.grow hgr1
      have hc2 := hM2.chl
      refine Stp.go ?_
      simp (maxSteps := 10000000) only [tt, c, cl, cg0, cg1, cOp, cCall, cLoad, cLoadA, cStore, cLoop, cEnd, cRet, argsV, regsV, Go.Vc.oneCell, Nat.add_zero, seval, h5, h1']
      obtain ⟨q1, z1, w3, e2, hM3⟩ := Mrk1.st hM2 (o + i * 13 + 1) (.string (mtext k1)) (by simp [hdl]; try omega) (mtext_ok (by omega))
      have hc3 := hM3.chl
      refine ⟨by omega, by omega, q1, z1, w3, e2, Stp.go ?_⟩
      simp (maxSteps := 10000000) only [tt, c, cl, cg0, cg1, cOp, cCall, cLoad, cLoadA, cStore, cLoop, cEnd, cRet, argsV, regsV, Go.Vc.oneCell, Nat.add_zero, seval, h5, h1']
      rw [wrap_id (n := k1 + 1) (by omega) (by omega)]
      generalize hk2 : k1 + 1 = k2 at *
      obtain ⟨q2, z2, w4, e3, hM4⟩ := Mrk1.st hM3 (o + i * 13 + 2) (.int .i64 k2) (by simp [hdl]; try omega) trivial
      have hc4 := hM4.chl
      refine ⟨by omega, by omega, q2, z2, w4, e3, Stp.go ?_⟩
      simp (maxSteps := 10000000) only [tt, c, cl, cg0, cg1, cOp, cCall, cLoad, cLoadA, cStore, cLoop, cEnd, cRet, argsV, regsV, Go.Vc.oneCell, Nat.add_zero, seval, h5, h1']
      rw [wrap_id (n := k2 + 1) (by omega) (by omega)]
      generalize hk3 : k2 + 1 = k3 at *
      obtain ⟨q3, z3, w5, e4, hM5⟩ := Mrk1.st hM4 (o + i * 13 + 3) (.int .i64 k3) (by simp [hdl]; try omega) trivial
      have hc5 := hM5.chl
      refine ⟨by omega, by omega, q3, z3, w5, e4, Stp.go ?_⟩
      simp (maxSteps := 10000000) only [tt, c, cl, cg0, cg1, cOp, cCall, cLoad, cLoadA, cStore, cLoop, cEnd, cRet, argsV, regsV, Go.Vc.oneCell, Nat.add_zero, seval, h5, h1']
      rw [wrap_id (n := k3 + 1) (by omega) (by omega)]
      generalize hk4 : k3 + 1 = k4 at *
      obtain ⟨q4, z4, w6, e5, hM6⟩ := Mrk1.st hM5 (o + i * 13 + 4) (.bool (decide (k4.tmod 3 = 0))) (by simp [hdl]; try omega) trivial
      have hc6 := hM6.chl
      refine ⟨by omega, by omega, q4, z4, w6, e5, Stp.go ?_⟩
      simp (maxSteps := 10000000) only [tt, c, cl, cg0, cg1, cOp, cCall, cLoad, cLoadA, cStore, cLoop, cEnd, cRet, argsV, regsV, Go.Vc.oneCell, Nat.add_zero, seval, h5, h1']
      rw [wrap_id (n := k4 + 1) (by omega) (by omega)]
      generalize hk5 : k4 + 1 = k5 at *
      obtain ⟨q5, z5, w7, e6, hM7⟩ := Mrk1.st hM6 (o + i * 13 + 5) (.int .i64 k5) (by simp [hdl]; try omega) trivial
      have hc7 := hM7.chl
      refine ⟨by omega, by omega, q5, z5, w7, e6, Stp.go ?_⟩
      simp (maxSteps := 10000000) only [tt, c, cl, cg0, cg1, cOp, cCall, cLoad, cLoadA, cStore, cLoop, cEnd, cRet, argsV, regsV, Go.Vc.oneCell, Nat.add_zero, seval, h5, h1']
      rw [wrap_id (n := k5 + 1) (by omega) (by omega)]
      generalize hk6 : k5 + 1 = k6 at *
      obtain ⟨q6, z6, w8, e7, hM8⟩ := Mrk1.st hM7 (o + i * 13 + 6) (.int .i64 k6) (by simp [hdl]; try omega) trivial
      have hc8 := hM8.chl
      refine ⟨by omega, by omega, q6, z6, w8, e7, Stp.go ?_⟩
      simp (maxSteps := 10000000) only [tt, c, cl, cg0, cg1, cOp, cCall, cLoad, cLoadA, cStore, cLoop, cEnd, cRet, argsV, regsV, Go.Vc.oneCell, Nat.add_zero, seval, h5, h1']
      rw [wrap_id (n := k6 + 1) (by omega) (by omega)]
      generalize hk7 : k6 + 1 = k7 at *
      obtain ⟨hcb7, hcl7⟩ := markText_c k7 w8 (glw_chl hc8 hg hlib) (by omega)
      refine ⟨hcb7, _, hcl7, ?_⟩
      rintro _ w9 ⟨rfl, hgr8⟩
      replace hM9 := hM8.grow hgr8
      have hc9 := hM9.chl
      refine Stp.go ?_
      simp (maxSteps := 10000000) only [tt, c, cl, cg0, cg1, cOp, cCall, cLoad, cLoadA, cStore, cLoop, cEnd, cRet, argsV, regsV, Go.Vc.oneCell, Nat.add_zero, seval, h5, h1']
      obtain ⟨q7, z7, w10, e9, hM10⟩ := Mrk1.st hM9 (o + i * 13 + 7) (.string (mtext k7)) (by simp [hdl]; try omega) (mtext_ok (by omega))
      have hc10 := hM10.chl
      refine ⟨by omega, by omega, q7, z7, w10, e9, Stp.go ?_⟩
      simp (maxSteps := 10000000) only [tt, c, cl, cg0, cg1, cOp, cCall, cLoad, cLoadA, cStore, cLoop, cEnd, cRet, argsV, regsV, Go.Vc.oneCell, Nat.add_zero, seval, h5, h1']
      rw [wrap_id (n := k7 + 1) (by omega) (by omega)]
      generalize hk8 : k7 + 1 = k8 at *
      obtain ⟨hcb8, hcl8⟩ := markText_c k8 w10 (glw_chl hc10 hg hlib) (by omega)
      refine ⟨hcb8, _, hcl8, ?_⟩
      rintro _ w11 ⟨rfl, hgr10⟩
      replace hM11 := hM10.grow hgr10
      have hc11 := hM11.chl
      refine Stp.go ?_
      simp (maxSteps := 10000000) only [tt, c, cl, cg0, cg1, cOp, cCall, cLoad, cLoadA, cStore, cLoop, cEnd, cRet, argsV, regsV, Go.Vc.oneCell, Nat.add_zero, seval, h5, h1']
      obtain ⟨q8, z8, w12, e11, hM12⟩ := Mrk1.st hM11 (o + i * 13 + 8) (.string (mtext k8)) (by simp [hdl]; try omega) (mtext_ok (by omega))
      have hc12 := hM12.chl
      refine ⟨by omega, by omega, q8, z8, w12, e11, Stp.go ?_⟩
      simp (maxSteps := 10000000) only [tt, c, cl, cg0, cg1, cOp, cCall, cLoad, cLoadA, cStore, cLoop, cEnd, cRet, argsV, regsV, Go.Vc.oneCell, Nat.add_zero, seval, h5, h1']
      rw [wrap_id (n := k8 + 1) (by omega) (by omega)]
      generalize hk9 : k8 + 1 = k9 at *
      obtain ⟨hcb9, hcl9⟩ := markText_c k9 w12 (glw_chl hc12 hg hlib) (by omega)
      refine ⟨hcb9, _, hcl9, ?_⟩
      rintro _ w13 ⟨rfl, hgr12⟩
      replace hM13 := hM12.grow hgr12
      have hc13 := hM13.chl
      refine Stp.go ?_
      simp (maxSteps := 10000000) only [tt, c, cl, cg0, cg1, cOp, cCall, cLoad, cLoadA, cStore, cLoop, cEnd, cRet, argsV, regsV, Go.Vc.oneCell, Nat.add_zero, seval, h5, h1']
      obtain ⟨q9, z9, w14, e13, hM14⟩ := Mrk1.st hM13 (o + i * 13 + 9) (.string (mtext k9)) (by simp [hdl]; try omega) (mtext_ok (by omega))
      have hc14 := hM14.chl
      refine ⟨by omega, by omega, q9, z9, w14, e13, Stp.go ?_⟩
      simp (maxSteps := 10000000) only [tt, c, cl, cg0, cg1, cOp, cCall, cLoad, cLoadA, cStore, cLoop, cEnd, cRet, argsV, regsV, Go.Vc.oneCell, Nat.add_zero, seval, h5, h1']
      rw [wrap_id (n := k9 + 1) (by omega) (by omega)]
      generalize hk10 : k9 + 1 = k10 at *
      obtain ⟨v10, G10, hv10, hd10, nd10, ow10, sb10, nx10⟩ := Mrk1.load hM14 (p := o + i * 13 + 10) (by simp [hdl]; try omega)
      refine ⟨by omega, by omega, _, hv10, ?_⟩
      obtain ⟨hcb10, hcl10⟩ := He_kids w14 k10 v10 G10 hd10 nd10 ow10 (glw_chl hc14 hg hlib) (fun t ht hm => hlib t ht (sb10 _ hm)) (by omega) (by omega)
      refine ⟨hcb10, _, hcl10, ?_⟩
      rintro _ w15 ⟨rfl, cd10, ow10', cg10⟩
      have hM15 := nx10 _ _ cg10 cd10 ow10'
      have hc15 := hM15.chl
      refine Stp.go ?_
      simp (maxSteps := 10000000) only [tt, c, cl, cg0, cg1, cOp, cCall, cLoad, cLoadA, cStore, cLoop, cEnd, cRet, argsV, regsV, Go.Vc.oneCell, Nat.add_zero, seval, h5, h1']
      generalize hk11 : k10 + (cnL cnExpr e_kids : Int) = k11 at *
      obtain ⟨v11, G11, hv11, hd11, nd11, ow11, sb11, nx11⟩ := Mrk1.load hM15 (p := o + i * 13 + 11) (by simp [hdl]; try omega)
      refine ⟨by omega, by omega, _, hv11, ?_⟩
      obtain ⟨hcb11, hcl11⟩ := He_sub w15 k11 v11 G11 hd11 nd11 ow11 (glw_chl hc15 hg hlib) (fun t ht hm => hlib t ht (sb11 _ hm)) (by omega) (by omega)
      refine ⟨hcb11, _, hcl11, ?_⟩
      rintro _ w16 ⟨rfl, cd11, ow11', cg11⟩
      have hM16 := nx11 _ _ cg11 cd11 ow11'
      have hc16 := hM16.chl
      refine Stp.go ?_
      simp (maxSteps := 10000000) only [tt, c, cl, cg0, cg1, cOp, cCall, cLoad, cLoadA, cStore, cLoop, cEnd, cRet, argsV, regsV, Go.Vc.oneCell, Nat.add_zero, seval, h5, h1']
      generalize hk12 : k11 + (cnL cnQuery e_sub : Int) = k12 at *
      obtain ⟨hcb12, hcl12⟩ := markText_c k12 w16 (glw_chl hc16 hg hlib) (by omega)
      refine ⟨hcb12, _, hcl12, ?_⟩
      rintro _ w17 ⟨rfl, hgr16⟩
      replace hM17 := hM16.grow hgr16
      have hc17 := hM17.chl
      refine Stp.go ?_
      simp (maxSteps := 10000000) only [tt, c, cl, cg0, cg1, cOp, cCall, cLoad, cLoadA, cStore, cLoop, cEnd, cRet, argsV, regsV, Go.Vc.oneCell, Nat.add_zero, seval, h5, h1']
      obtain ⟨q12, z12, w18, e17, hM18⟩ := Mrk1.st hM17 (o + i * 13 + 12) (.string (mtext k12)) (by simp [hdl]; try omega) (mtext_ok (by omega))
      have hc18 := hM18.chl
      refine ⟨by omega, by omega, q12, z12, w18, e17, Stp.go ?_⟩
      simp (maxSteps := 10000000) only [tt, c, cl, cg0, cg1, cOp, cCall, cLoad, cLoadA, cStore, cLoop, cEnd, cRet, argsV, regsV, Go.Vc.oneCell, Nat.add_zero, seval, h5, h1']
      rw [wrap_id (n := k12 + 1) (by omega) (by omega)]
      generalize hk13 : k12 + 1 = k13 at *
      rw [wrap_id (n := (i : Int) + 1) (by omega) (by omega)]
      refine ⟨⟨i + 1, rfl, viE (by rw [hks]; omega), by omega, ?_⟩, by simp only [ixS]; omega⟩
      rw [hts, List.flatMap_append]
      have := hM18.close
      rw [hdone]
      simpa [mkItem_mk, Expr.row_mk, Item.row_mk, List.cons_append, List.nil_append, Val.row, hk1, hk2, hk3, hk4, hk5, hk6, hk7, hk8, hk9, hk10, hk11, hk12, hk13, mkL_len, int, bool, str] using this
    · have : i = es.length := by omega
      subst this
      rw [List.take_length, List.drop_length] at hM
      obtain ⟨hc, ho, hcg⟩ := hM.done hcap hmax hz
      exact ⟨by rw [List.take_length], hc, ho, hcg⟩
set_option maxHeartbeats 8000000 in
theorem markQuerys_step (es : List Query) (hx : ∀ e ∈ es, MkQuery e) : MkC 90 Query.row mkQuery cnQuery es := by
  intro w k v F h hn ho hg hlib h0 h1
  obtain ⟨a, cap, rfl, hcap, hmax, hz⟩ := h.slice
  have hmax' : cap ≤ 9223372036854775807 := hmax
  have hM := Mrk.start h hn ho
  clear h hn ho
  refine ⟨by kernel_rfl, calls_of_c (vs := [.slice a es.length cap, .int .i64 k]) Tryz.func90 rfl (Nat.le_of_ble_eq_true rfl) ?_⟩
  simp (maxSteps := 10000000) only [tt, c, cl, cg0, cg1, cOp, cCall, cLoad, cLoadA, cStore, cLoop, cEnd, cRet, argsV, regsV, Go.Vc.oneCell, Nat.add_zero, seval, Tryz.f90]
  refine ⟨fun f w1 => ∃ i : Nat, f 5 = vi i ∧ f 1 = vi (k + cnL cnQuery (es.take i)) ∧ i ≤ es.length ∧ Mrk w F w1 a ((mkL mkQuery cnQuery k (es.take i)).flatMap Query.row) ((es.drop i).flatMap Query.row), fun f _ => (es.length - ixS (f 5)).toNat, ?_, ?_⟩
  · simp (maxSteps := 10000000) only [tt, c, cl, cg0, cg1, cOp, cCall, cLoad, cLoadA, cStore, cLoop, cEnd, cRet, argsV, regsV, Go.Vc.oneCell, Nat.add_zero, seval]
    exact ⟨0, rfl, viE (by simp [cnL]), by omega, by simpa [mkL] using hM⟩
  · rintro g w0 ⟨i, h5, h1', hi, hM⟩
    simp (maxSteps := 10000000) only [tt, c, cl, cg0, cg1, cOp, cCall, cLoad, cLoadA, cStore, cLoop, cEnd, cRet, argsV, regsV, Go.Vc.oneCell, Nat.add_zero, seval] at h5 h1'
    simp (maxSteps := 10000000) only [tt, c, cl, cg0, cg1, cOp, cCall, cLoad, cLoadA, cStore, cLoop, cEnd, cRet, argsV, regsV, Go.Vc.oneCell, Nat.add_zero, seval, h5, h1', Int.ofNat_lt]
    refine And.intro (fun hlt => ?_) (fun hge => ?_)
    · have hlt : i < es.length := by omega
      have hd : es.drop i = es[i] :: es.drop (i + 1) := List.drop_eq_getElem_cons hlt
      have hks := cnL_take_succ cnQuery es i hlt
      have hkl := cnL_take_le cnQuery es (i + 1)
      have hts := mkL_take_succ mkQuery cnQuery k es i hlt
      have hdl : ((mkL mkQuery cnQuery k (es.take i)).flatMap Query.row).length = i * 6 := by rw [flatMap_len Query.row_len, mkL_len, List.length_take]; congr 1; omega
      rw [hd, List.flatMap_cons] at hM
      generalize hk0 : k + (cnL cnQuery (es.take i) : Int) = k0 at *
      generalize hdone : (mkL mkQuery cnQuery k (es.take i)).flatMap Query.row = done at *
      obtain ⟨e, he⟩ : ∃ e, es[i] = e := ⟨_, rfl⟩
      rw [he] at hks hts hM
      have hxe := hx _ (List.getElem_mem hlt)
      rw [he] at hxe
      obtain ⟨distinct, items, from_, where_, order, limit⟩ := e
      obtain ⟨Hitems, Hfrom_, Hwhere_, Horder⟩ := hxe
      rw [cnQuery_mk] at hks
      simp only [List.cons_append, List.nil_append, Query.row_mk, Val.row] at hM
      obtain ⟨b, o, rfl, hM0⟩ := hM.open (by simp)
      clear hM
      have hc0 := hM0.chl
      obtain ⟨q0, z0, w1, e0, hM1⟩ := Mrk1.st hM0 (o + i * 6) (.bool (decide (k0.tmod 3 = 0))) (by simp [hdl]; try omega) trivial
      have hc1 := hM1.chl
      refine ⟨by omega, by omega, q0, z0, w1, e0, Stp.go ?_⟩
      simp (maxSteps := 10000000) only [tt, c, cl, cg0, cg1, cOp, cCall, cLoad, cLoadA, cStore, cLoop, cEnd, cRet, argsV, regsV, Go.Vc.oneCell, Nat.add_zero, seval, h5, h1']
      rw [wrap_id (n := k0 + 1) (by omega) (by omega)]
      generalize hk1 : k0 + 1 = k1 at *
      obtain ⟨v1, G1, hv1, hd1, nd1, ow1, sb1, nx1⟩ := Mrk1.load hM1 (p := o + i * 6 + 1) (by simp [hdl]; try omega)
      refine ⟨by omega, by omega, _, hv1, ?_⟩
      obtain ⟨hcb1, hcl1⟩ := Hitems w1 k1 v1 G1 hd1 nd1 ow1 (glw_chl hc1 hg hlib) (fun t ht hm => hlib t ht (sb1 _ hm)) (by omega) (by omega)
      refine ⟨hcb1, _, hcl1, ?_⟩
      rintro _ w2 ⟨rfl, cd1, ow1', cg1⟩
      have hM2 := nx1 _ _ cg1 cd1 ow1'
      have hc2 := hM2.chl
      refine Stp.go ?_
      simp (maxSteps := 10000000) only [tt, c, cl, cg0, cg1, cOp, cCall, cLoad, cLoadA, cStore, cLoop, cEnd, cRet, argsV, regsV, Go.Vc.oneCell, Nat.add_zero, seval, h5, h1']
      generalize hk2 : k1 + (cnL cnItem items : Int) = k2 at *
      obtain ⟨v2, G2, hv2, hd2, nd2, ow2, sb2, nx2⟩ := Mrk1.load hM2 (p := o + i * 6 + 2) (by simp [hdl]; try omega)
      refine ⟨by omega, by omega, _, hv2, ?_⟩
      obtain ⟨hcb2, hcl2⟩ := Hfrom_ w2 k2 v2 G2 hd2 nd2 ow2 (glw_chl hc2 hg hlib) (fun t ht hm => hlib t ht (sb2 _ hm)) (by omega) (by omega)
      refine ⟨hcb2, _, hcl2, ?_⟩
      rintro _ w3 ⟨rfl, cd2, ow2', cg2⟩
      have hM3 := nx2 _ _ cg2 cd2 ow2'
      have hc3 := hM3.chl
      refine Stp.go ?_
      simp (maxSteps := 10000000) only [tt, c, cl, cg0, cg1, cOp, cCall, cLoad, cLoadA, cStore, cLoop, cEnd, cRet, argsV, regsV, Go.Vc.oneCell, Nat.add_zero, seval, h5, h1']
      generalize hk3 : k2 + (cnL cnSource from_ : Int) = k3 at *
      obtain ⟨v3, G3, hv3, hd3, nd3, ow3, sb3, nx3⟩ := Mrk1.load hM3 (p := o + i * 6 + 3) (by simp [hdl]; try omega)
      refine ⟨by omega, by omega, _, hv3, ?_⟩
      obtain ⟨hcb3, hcl3⟩ := Hwhere_ w3 k3 v3 G3 hd3 nd3 ow3 (glw_chl hc3 hg hlib) (fun t ht hm => hlib t ht (sb3 _ hm)) (by omega) (by omega)
      refine ⟨hcb3, _, hcl3, ?_⟩
      rintro _ w4 ⟨rfl, cd3, ow3', cg3⟩
      have hM4 := nx3 _ _ cg3 cd3 ow3'
      have hc4 := hM4.chl
      refine Stp.go ?_
      simp (maxSteps := 10000000) only [tt, c, cl, cg0, cg1, cOp, cCall, cLoad, cLoadA, cStore, cLoop, cEnd, cRet, argsV, regsV, Go.Vc.oneCell, Nat.add_zero, seval, h5, h1']
      generalize hk4 : k3 + (cnL cnExpr where_ : Int) = k4 at *
      obtain ⟨v4, G4, hv4, hd4, nd4, ow4, sb4, nx4⟩ := Mrk1.load hM4 (p := o + i * 6 + 4) (by simp [hdl]; try omega)
      refine ⟨by omega, by omega, _, hv4, ?_⟩
      obtain ⟨hcb4, hcl4⟩ := Horder w4 k4 v4 G4 hd4 nd4 ow4 (glw_chl hc4 hg hlib) (fun t ht hm => hlib t ht (sb4 _ hm)) (by omega) (by omega)
      refine ⟨hcb4, _, hcl4, ?_⟩
      rintro _ w5 ⟨rfl, cd4, ow4', cg4⟩
      have hM5 := nx4 _ _ cg4 cd4 ow4'
      have hc5 := hM5.chl
      refine Stp.go ?_
      simp (maxSteps := 10000000) only [tt, c, cl, cg0, cg1, cOp, cCall, cLoad, cLoadA, cStore, cLoop, cEnd, cRet, argsV, regsV, Go.Vc.oneCell, Nat.add_zero, seval, h5, h1']
      generalize hk5 : k4 + (cnL cnSortKey order : Int) = k5 at *
      obtain ⟨q5, z5, w6, e5, hM6⟩ := Mrk1.st hM5 (o + i * 6 + 5) (.int .i64 k5) (by simp [hdl]; try omega) trivial
      have hc6 := hM6.chl
      refine ⟨by omega, by omega, q5, z5, w6, e5, Stp.go ?_⟩
      simp (maxSteps := 10000000) only [tt, c, cl, cg0, cg1, cOp, cCall, cLoad, cLoadA, cStore, cLoop, cEnd, cRet, argsV, regsV, Go.Vc.oneCell, Nat.add_zero, seval, h5, h1']
      rw [wrap_id (n := k5 + 1) (by omega) (by omega)]
      generalize hk6 : k5 + 1 = k6 at *
      rw [wrap_id (n := (i : Int) + 1) (by omega) (by omega)]
      refine ⟨⟨i + 1, rfl, viE (by rw [hks]; omega), by omega, ?_⟩, by simp only [ixS]; omega⟩
      rw [hts, List.flatMap_append]
      have := hM6.close
      rw [hdone]
      simpa [mkQuery_mk, List.cons_append, List.nil_append, Query.row_mk, Val.row, hk1, hk2, hk3, hk4, hk5, hk6, mkL_len, int, bool, str] using this
    · have : i = es.length := by omega
      subst this
      rw [List.take_length, List.drop_length] at hM
      obtain ⟨hc, ho, hcg⟩ := hM.done hcap hmax hz
      exact ⟨by rw [List.take_length], hc, ho, hcg⟩
set_option maxHeartbeats 8000000 in
theorem markSortKeys_step (es : List SortKey) (hx : ∀ e ∈ es, MkSortKey e) : MkC 40 SortKey.row mkSortKey cnSortKey es := by
  intro w k v F h hn ho hg hlib h0 h1
  obtain ⟨a, cap, rfl, hcap, hmax, hz⟩ := h.slice
  have hmax' : cap ≤ 9223372036854775807 := hmax
  have hM := Mrk.start h hn ho
  clear h hn ho
  refine ⟨by kernel_rfl, calls_of_c (vs := [.slice a es.length cap, .int .i64 k]) Tryz.func40 rfl (Nat.le_of_ble_eq_true rfl) ?_⟩
  simp (maxSteps := 10000000) only [tt, c, cl, cg0, cg1, cOp, cCall, cLoad, cLoadA, cStore, cLoop, cEnd, cRet, argsV, regsV, Go.Vc.oneCell, Nat.add_zero, seval, Tryz.f40]
  refine ⟨fun f w1 => ∃ i : Nat, f 5 = vi i ∧ f 1 = vi (k + cnL cnSortKey (es.take i)) ∧ i ≤ es.length ∧ Mrk w F w1 a ((mkL mkSortKey cnSortKey k (es.take i)).flatMap SortKey.row) ((es.drop i).flatMap SortKey.row), fun f _ => (es.length - ixS (f 5)).toNat, ?_, ?_⟩
  · simp (maxSteps := 10000000) only [tt, c, cl, cg0, cg1, cOp, cCall, cLoad, cLoadA, cStore, cLoop, cEnd, cRet, argsV, regsV, Go.Vc.oneCell, Nat.add_zero, seval]
    exact ⟨0, rfl, viE (by simp [cnL]), by omega, by simpa [mkL] using hM⟩
  · rintro g w0 ⟨i, h5, h1', hi, hM⟩
    simp (maxSteps := 10000000) only [tt, c, cl, cg0, cg1, cOp, cCall, cLoad, cLoadA, cStore, cLoop, cEnd, cRet, argsV, regsV, Go.Vc.oneCell, Nat.add_zero, seval] at h5 h1'
    simp (maxSteps := 10000000) only [tt, c, cl, cg0, cg1, cOp, cCall, cLoad, cLoadA, cStore, cLoop, cEnd, cRet, argsV, regsV, Go.Vc.oneCell, Nat.add_zero, seval, h5, h1', Int.ofNat_lt]
    refine And.intro (fun hlt => ?_) (fun hge => ?_)
    · have hlt : i < es.length := by omega
      have hd : es.drop i = es[i] :: es.drop (i + 1) := List.drop_eq_getElem_cons hlt
      have hks := cnL_take_succ cnSortKey es i hlt
      have hkl := cnL_take_le cnSortKey es (i + 1)
      have hts := mkL_take_succ mkSortKey cnSortKey k es i hlt
      have hdl : ((mkL mkSortKey cnSortKey k (es.take i)).flatMap SortKey.row).length = i * 11 := by rw [flatMap_len SortKey.row_len, mkL_len, List.length_take]; congr 1; omega
      rw [hd, List.flatMap_cons] at hM
      generalize hk0 : k + (cnL cnSortKey (es.take i) : Int) = k0 at *
      generalize hdone : (mkL mkSortKey cnSortKey k (es.take i)).flatMap SortKey.row = done at *
      obtain ⟨e, he⟩ : ∃ e, es[i] = e := ⟨_, rfl⟩
      rw [he] at hks hts hM
      have hxe := hx _ (List.getElem_mem hlt)
      rw [he] at hxe
      obtain ⟨⟨e_kind, e_op, e_not, e_val, e_qual, e_name, e_kids, e_sub⟩, desc⟩ := e
      obtain ⟨He_kids, He_sub⟩ := hxe
      rw [cnSortKey_mk] at hks
      simp only [Expr.row_mk, List.cons_append, List.nil_append, SortKey.row_mk, Val.row] at hM
      obtain ⟨b, o, rfl, hM0⟩ := hM.open (by simp)
      clear hM
      have hc0 := hM0.chl
      obtain ⟨q0, z0, w1, e0, hM1⟩ := Mrk1.st hM0 (o + i * 11) (.int .i64 k0) (by simp [hdl]; try omega) trivial
      have hc1 := hM1.chl
      refine ⟨by omega, by omega, q0, z0, w1, e0, Stp.go ?_⟩
      simp (maxSteps := 10000000) only [tt, c, cl, cg0, cg1, cOp, cCall, cLoad, cLoadA, cStore, cLoop, cEnd, cRet, argsV, regsV, Go.Vc.oneCell, Nat.add_zero, seval, h5, h1']
      rw [wrap_id (n := k0 + 1) (by omega) (by omega)]
      generalize hk1 : k0 + 1 = k1 at *
      obtain ⟨q1, z1, w2, e1, hM2⟩ := Mrk1.st hM1 (o + i * 11 + 1) (.int .i64 k1) (by simp [hdl]; try omega) trivial
      have hc2 := hM2.chl
      refine ⟨by omega, by omega, q1, z1, w2, e1, Stp.go ?_⟩
      simp (maxSteps := 10000000) only [tt, c, cl, cg0, cg1, cOp, cCall, cLoad, cLoadA, cStore, cLoop, cEnd, cRet, argsV, regsV, Go.Vc.oneCell, Nat.add_zero, seval, h5, h1']
      rw [wrap_id (n := k1 + 1) (by omega) (by omega)]
      generalize hk2 : k1 + 1 = k2 at *
      obtain ⟨q2, z2, w3, e2, hM3⟩ := Mrk1.st hM2 (o + i * 11 + 2) (.bool (decide (k2.tmod 3 = 0))) (by simp [hdl]; try omega) trivial
      have hc3 := hM3.chl
      refine ⟨by omega, by omega, q2, z2, w3, e2, Stp.go ?_⟩
      simp (maxSteps := 10000000) only [tt, c, cl, cg0, cg1, cOp, cCall, cLoad, cLoadA, cStore, cLoop, cEnd, cRet, argsV, regsV, Go.Vc.oneCell, Nat.add_zero, seval, h5, h1']
      rw [wrap_id (n := k2 + 1) (by omega) (by omega)]
      generalize hk3 : k2 + 1 = k3 at *
      obtain ⟨q3, z3, w4, e3, hM4⟩ := Mrk1.st hM3 (o + i * 11 + 3) (.int .i64 k3) (by simp [hdl]; try omega) trivial
      have hc4 := hM4.chl
      refine ⟨by omega, by omega, q3, z3, w4, e3, Stp.go ?_⟩
      simp (maxSteps := 10000000) only [tt, c, cl, cg0, cg1, cOp, cCall, cLoad, cLoadA, cStore, cLoop, cEnd, cRet, argsV, regsV, Go.Vc.oneCell, Nat.add_zero, seval, h5, h1']
      rw [wrap_id (n := k3 + 1) (by omega) (by omega)]
      generalize hk4 : k3 + 1 = k4 at *
      obtain ⟨q4, z4, w5, e4, hM5⟩ := Mrk1.st hM4 (o + i * 11 + 4) (.int .i64 k4) (by simp [hdl]; try omega) trivial
      have hc5 := hM5.chl
      refine ⟨by omega, by omega, q4, z4, w5, e4, Stp.go ?_⟩
      simp (maxSteps := 10000000) only [tt, c, cl, cg0, cg1, cOp, cCall, cLoad, cLoadA, cStore, cLoop, cEnd, cRet, argsV, regsV, Go.Vc.oneCell, Nat.add_zero, seval, h5, h1']
      rw [wrap_id (n := k4 + 1) (by omega) (by omega)]
      generalize hk5 : k4 + 1 = k5 at *
      obtain ⟨hcb5, hcl5⟩ := markText_c k5 w5 (glw_chl hc5 hg hlib) (by omega)
      refine ⟨hcb5, _, hcl5, ?_⟩
      rintro _ w6 ⟨rfl, hgr5⟩
      replace hM6 := hM5.grow hgr5
      have hc6 := hM6.chl
      refine Stp.go ?_
      simp (maxSteps := 10000000) only [tt, c, cl, cg0, cg1, cOp, cCall, cLoad, cLoadA, cStore, cLoop, cEnd, cRet, argsV, regsV, Go.Vc.oneCell, Nat.add_zero, seval, h5, h1']
      obtain ⟨q5, z5, w7, e6, hM7⟩ := Mrk1.st hM6 (o + i * 11 + 5) (.string (mtext k5)) (by simp [hdl]; try omega) (mtext_ok (by omega))
      have hc7 := hM7.chl
      refine ⟨by omega, by omega, q5, z5, w7, e6, Stp.go ?_⟩
      simp (maxSteps := 10000000) only [tt, c, cl, cg0, cg1, cOp, cCall, cLoad, cLoadA, cStore, cLoop, cEnd, cRet, argsV, regsV, Go.Vc.oneCell, Nat.add_zero, seval, h5, h1']
      rw [wrap_id (n := k5 + 1) (by omega) (by omega)]
      generalize hk6 : k5 + 1 = k6 at *
      obtain ⟨hcb6, hcl6⟩ := markText_c k6 w7 (glw_chl hc7 hg hlib) (by omega)
      refine ⟨hcb6, _, hcl6, ?_⟩
      rintro _ w8 ⟨rfl, hgr7⟩
      replace hM8 := hM7.grow hgr7
      have hc8 := hM8.chl
      refine Stp.go ?_
      simp (maxSteps := 10000000) only [tt, c, cl, cg0, cg1, cOp, cCall, cLoad, cLoadA, cStore, cLoop, cEnd, cRet, argsV, regsV, Go.Vc.oneCell, Nat.add_zero, seval, h5, h1']
      obtain ⟨q6, z6, w9, e8, hM9⟩ := Mrk1.st hM8 (o + i * 11 + 6) (.string (mtext k6)) (by simp [hdl]; try omega) (mtext_ok (by omega))
      have hc9 := hM9.chl
      refine ⟨by omega, by omega, q6, z6, w9, e8, Stp.go ?_⟩
      simp (maxSteps := 10000000) only [tt, c, cl, cg0, cg1, cOp, cCall, cLoad, cLoadA, cStore, cLoop, cEnd, cRet, argsV, regsV, Go.Vc.oneCell, Nat.add_zero, seval, h5, h1']
      rw [wrap_id (n := k6 + 1) (by omega) (by omega)]
      generalize hk7 : k6 + 1 = k7 at *
      obtain ⟨hcb7, hcl7⟩ := markText_c k7 w9 (glw_chl hc9 hg hlib) (by omega)
      refine ⟨hcb7, _, hcl7, ?_⟩
      rintro _ w10 ⟨rfl, hgr9⟩
      replace hM10 := hM9.grow hgr9
      have hc10 := hM10.chl
      refine Stp.go ?_
      simp (maxSteps := 10000000) only [tt, c, cl, cg0, cg1, cOp, cCall, cLoad, cLoadA, cStore, cLoop, cEnd, cRet, argsV, regsV, Go.Vc.oneCell, Nat.add_zero, seval, h5, h1']
      obtain ⟨q7, z7, w11, e10, hM11⟩ := Mrk1.st hM10 (o + i * 11 + 7) (.string (mtext k7)) (by simp [hdl]; try omega) (mtext_ok (by omega))
      have hc11 := hM11.chl
      refine ⟨by omega, by omega, q7, z7, w11, e10, Stp.go ?_⟩
      simp (maxSteps := 10000000) only [tt, c, cl, cg0, cg1, cOp, cCall, cLoad, cLoadA, cStore, cLoop, cEnd, cRet, argsV, regsV, Go.Vc.oneCell, Nat.add_zero, seval, h5, h1']
      rw [wrap_id (n := k7 + 1) (by omega) (by omega)]
      generalize hk8 : k7 + 1 = k8 at *
      obtain ⟨v8, G8, hv8, hd8, nd8, ow8, sb8, nx8⟩ := Mrk1.load hM11 (p := o + i * 11 + 8) (by simp [hdl]; try omega)
      refine ⟨by omega, by omega, _, hv8, ?_⟩
      obtain ⟨hcb8, hcl8⟩ := He_kids w11 k8 v8 G8 hd8 nd8 ow8 (glw_chl hc11 hg hlib) (fun t ht hm => hlib t ht (sb8 _ hm)) (by omega) (by omega)
      refine ⟨hcb8, _, hcl8, ?_⟩
      rintro _ w12 ⟨rfl, cd8, ow8', cg8⟩
      have hM12 := nx8 _ _ cg8 cd8 ow8'
      have hc12 := hM12.chl
      refine Stp.go ?_
      simp (maxSteps := 10000000) only [tt, c, cl, cg0, cg1, cOp, cCall, cLoad, cLoadA, cStore, cLoop, cEnd, cRet, argsV, regsV, Go.Vc.oneCell, Nat.add_zero, seval, h5, h1']
      generalize hk9 : k8 + (cnL cnExpr e_kids : Int) = k9 at *
      obtain ⟨v9, G9, hv9, hd9, nd9, ow9, sb9, nx9⟩ := Mrk1.load hM12 (p := o + i * 11 + 9) (by simp [hdl]; try omega)
      refine ⟨by omega, by omega, _, hv9, ?_⟩
      obtain ⟨hcb9, hcl9⟩ := He_sub w12 k9 v9 G9 hd9 nd9 ow9 (glw_chl hc12 hg hlib) (fun t ht hm => hlib t ht (sb9 _ hm)) (by omega) (by omega)
      refine ⟨hcb9, _, hcl9, ?_⟩
      rintro _ w13 ⟨rfl, cd9, ow9', cg9⟩
      have hM13 := nx9 _ _ cg9 cd9 ow9'
      have hc13 := hM13.chl
      refine Stp.go ?_
      simp (maxSteps := 10000000) only [tt, c, cl, cg0, cg1, cOp, cCall, cLoad, cLoadA, cStore, cLoop, cEnd, cRet, argsV, regsV, Go.Vc.oneCell, Nat.add_zero, seval, h5, h1']
      generalize hk10 : k9 + (cnL cnQuery e_sub : Int) = k10 at *
      obtain ⟨q10, z10, w14, e13, hM14⟩ := Mrk1.st hM13 (o + i * 11 + 10) (.bool (decide (k10.tmod 3 = 0))) (by simp [hdl]; try omega) trivial
      have hc14 := hM14.chl
      refine ⟨by omega, by omega, q10, z10, w14, e13, Stp.go ?_⟩
      simp (maxSteps := 10000000) only [tt, c, cl, cg0, cg1, cOp, cCall, cLoad, cLoadA, cStore, cLoop, cEnd, cRet, argsV, regsV, Go.Vc.oneCell, Nat.add_zero, seval, h5, h1']
      rw [wrap_id (n := k10 + 1) (by omega) (by omega)]
      generalize hk11 : k10 + 1 = k11 at *
      rw [wrap_id (n := (i : Int) + 1) (by omega) (by omega)]
      refine ⟨⟨i + 1, rfl, viE (by rw [hks]; omega), by omega, ?_⟩, by simp only [ixS]; omega⟩
      rw [hts, List.flatMap_append]
      have := hM14.close
      rw [hdone]
      simpa [mkSortKey_mk, Expr.row_mk, List.cons_append, List.nil_append, SortKey.row_mk, Val.row, hk1, hk2, hk3, hk4, hk5, hk6, hk7, hk8, hk9, hk10, hk11, mkL_len, int, bool, str] using this
    · have : i = es.length := by omega
      subst this
      rw [List.take_length, List.drop_length] at hM
      obtain ⟨hc, ho, hcg⟩ := hM.done hcap hmax hz
      exact ⟨by rw [List.take_length], hc, ho, hcg⟩
set_option maxHeartbeats 8000000 in
theorem markSources_step (es : List Source) (hx : ∀ e ∈ es, MkSource e) : MkC 38 Source.row mkSource cnSource es := by
  intro w k v F h hn ho hg hlib h0 h1
  obtain ⟨a, cap, rfl, hcap, hmax, hz⟩ := h.slice
  have hmax' : cap ≤ 9223372036854775807 := hmax
  have hM := Mrk.start h hn ho
  clear h hn ho
  refine ⟨by kernel_rfl, calls_of_c (vs := [.slice a es.length cap, .int .i64 k]) Tryz.func38 rfl (Nat.le_of_ble_eq_true rfl) ?_⟩
  simp (maxSteps := 10000000) only [tt, c, cl, cg0, cg1, cOp, cCall, cLoad, cLoadA, cStore, cLoop, cEnd, cRet, argsV, regsV, Go.Vc.oneCell, Nat.add_zero, seval, Tryz.f38]
  refine ⟨fun f w1 => ∃ i : Nat, f 5 = vi i ∧ f 1 = vi (k + cnL cnSource (es.take i)) ∧ i ≤ es.length ∧ Mrk w F w1 a ((mkL mkSource cnSource k (es.take i)).flatMap Source.row) ((es.drop i).flatMap Source.row), fun f _ => (es.length - ixS (f 5)).toNat, ?_, ?_⟩
  · simp (maxSteps := 10000000) only [tt, c, cl, cg0, cg1, cOp, cCall, cLoad, cLoadA, cStore, cLoop, cEnd, cRet, argsV, regsV, Go.Vc.oneCell, Nat.add_zero, seval]
    exact ⟨0, rfl, viE (by simp [cnL]), by omega, by simpa [mkL] using hM⟩
  · rintro g w0 ⟨i, h5, h1', hi, hM⟩
    simp (maxSteps := 10000000) only [tt, c, cl, cg0, cg1, cOp, cCall, cLoad, cLoadA, cStore, cLoop, cEnd, cRet, argsV, regsV, Go.Vc.oneCell, Nat.add_zero, seval] at h5 h1'
    simp (maxSteps := 10000000) only [tt, c, cl, cg0, cg1, cOp, cCall, cLoad, cLoadA, cStore, cLoop, cEnd, cRet, argsV, regsV, Go.Vc.oneCell, Nat.add_zero, seval, h5, h1', Int.ofNat_lt]
    refine And.intro (fun hlt => ?_) (fun hge => ?_)
    · have hlt : i < es.length := by omega
      have hd : es.drop i = es[i] :: es.drop (i + 1) := List.drop_eq_getElem_cons hlt
      have hks := cnL_take_succ cnSource es i hlt
      have hkl := cnL_take_le cnSource es (i + 1)
      have hts := mkL_take_succ mkSource cnSource k es i hlt
      have hdl : ((mkL mkSource cnSource k (es.take i)).flatMap Source.row).length = i * 3 := by rw [flatMap_len Source.row_len, mkL_len, List.length_take]; congr 1; omega
      rw [hd, List.flatMap_cons] at hM
      generalize hk0 : k + (cnL cnSource (es.take i) : Int) = k0 at *
      generalize hdone : (mkL mkSource cnSource k (es.take i)).flatMap Source.row = done at *
      obtain ⟨e, he⟩ : ∃ e, es[i] = e := ⟨_, rfl⟩
      rw [he] at hks hts hM
      have hxe := hx _ (List.getElem_mem hlt)
      rw [he] at hxe
      obtain ⟨table, as_, on⟩ := e
      have Hon := hxe
      rw [cnSource_mk] at hks
      simp only [List.cons_append, List.nil_append, Source.row_mk, Val.row] at hM
      obtain ⟨b, o, rfl, hM0⟩ := hM.open (by simp)
      clear hM
      have hc0 := hM0.chl
      obtain ⟨hcb0, hcl0⟩ := markText_c k0 w0 (glw_chl hc0 hg hlib) (by omega)
      refine ⟨hcb0, _, hcl0, ?_⟩
      rintro _ w1 ⟨rfl, hgr0⟩
      replace hM1 := hM0.grow hgr0
      have hc1 := hM1.chl
      refine Stp.go ?_
      simp (maxSteps := 10000000) only [tt, c, cl, cg0, cg1, cOp, cCall, cLoad, cLoadA, cStore, cLoop, cEnd, cRet, argsV, regsV, Go.Vc.oneCell, Nat.add_zero, seval, h5, h1']
      obtain ⟨q0, z0, w2, e1, hM2⟩ := Mrk1.st hM1 (o + i * 3) (.string (mtext k0)) (by simp [hdl]; try omega) (mtext_ok (by omega))
      have hc2 := hM2.chl
      refine ⟨by omega, by omega, q0, z0, w2, e1, Stp.go ?_⟩
      simp (maxSteps := 10000000) only [tt, c, cl, cg0, cg1, cOp, cCall, cLoad, cLoadA, cStore, cLoop, cEnd, cRet, argsV, regsV, Go.Vc.oneCell, Nat.add_zero, seval, h5, h1']
      rw [wrap_id (n := k0 + 1) (by omega) (by omega)]
      generalize hk1 : k0 + 1 = k1 at *
      obtain ⟨hcb1, hcl1⟩ := markText_c k1 w2 (glw_chl hc2 hg hlib) (by omega)
      refine ⟨hcb1, _, hcl1, ?_⟩
      rintro _ w3 ⟨rfl, hgr2⟩
      replace hM3 := hM2.grow hgr2
      have hc3 := hM3.chl
      refine Stp.go ?_
      simp (maxSteps := 10000000) only [tt, c, cl, cg0, cg1, cOp, cCall, cLoad, cLoadA, cStore, cLoop, cEnd, cRet, argsV, regsV, Go.Vc.oneCell, Nat.add_zero, seval, h5, h1']
      obtain ⟨q1, z1, w4, e3, hM4⟩ := Mrk1.st hM3 (o + i * 3 + 1) (.string (mtext k1)) (by simp [hdl]; try omega) (mtext_ok (by omega))
      have hc4 := hM4.chl
      refine ⟨by omega, by omega, q1, z1, w4, e3, Stp.go ?_⟩
      simp (maxSteps := 10000000) only [tt, c, cl, cg0, cg1, cOp, cCall, cLoad, cLoadA, cStore, cLoop, cEnd, cRet, argsV, regsV, Go.Vc.oneCell, Nat.add_zero, seval, h5, h1']
      rw [wrap_id (n := k1 + 1) (by omega) (by omega)]
      generalize hk2 : k1 + 1 = k2 at *
      obtain ⟨v2, G2, hv2, hd2, nd2, ow2, sb2, nx2⟩ := Mrk1.load hM4 (p := o + i * 3 + 2) (by simp [hdl]; try omega)
      refine ⟨by omega, by omega, _, hv2, ?_⟩
      obtain ⟨hcb2, hcl2⟩ := Hon w4 k2 v2 G2 hd2 nd2 ow2 (glw_chl hc4 hg hlib) (fun t ht hm => hlib t ht (sb2 _ hm)) (by omega) (by omega)
      refine ⟨hcb2, _, hcl2, ?_⟩
      rintro _ w5 ⟨rfl, cd2, ow2', cg2⟩
      have hM5 := nx2 _ _ cg2 cd2 ow2'
      have hc5 := hM5.chl
      refine Stp.go ?_
      simp (maxSteps := 10000000) only [tt, c, cl, cg0, cg1, cOp, cCall, cLoad, cLoadA, cStore, cLoop, cEnd, cRet, argsV, regsV, Go.Vc.oneCell, Nat.add_zero, seval, h5, h1']
      generalize hk3 : k2 + (cnL cnExpr on : Int) = k3 at *
      rw [wrap_id (n := (i : Int) + 1) (by omega) (by omega)]
      refine ⟨⟨i + 1, rfl, viE (by rw [hks]; omega), by omega, ?_⟩, by simp only [ixS]; omega⟩
      rw [hts, List.flatMap_append]
      have := hM5.close
      rw [hdone]
      simpa [mkSource_mk, List.cons_append, List.nil_append, Source.row_mk, Val.row, hk1, hk2, hk3, mkL_len, int, bool, str] using this
    · have : i = es.length := by omega
      subst this
      rw [List.take_length, List.drop_length] at hM
      obtain ⟨hc, ho, hcg⟩ := hM.done hcap hmax hz
      exact ⟨by rw [List.take_length], hc, ho, hcg⟩
theorem mkExpr_all : (∀ a : Expr, MkExpr a) ∧ (∀ a : Item, MkItem a) ∧ (∀ a : Source, MkSource a) ∧ (∀ a : SortKey, MkSortKey a) ∧ (∀ a : Query, MkQuery a) := by
  refine Expr.ind ?_ ?_ ?_ ?_ ?_
  · intro kind op not val qual name kids sub hkids hsub
    exact ⟨markExprs_step _ hkids, markQuerys_step _ hsub⟩
  · intro star qual e as_ he
    exact he
  · intro table as_ on hon
    exact markExprs_step _ hon
  · intro e desc he
    exact he
  · intro distinct items from_ where_ order limit hitems hfrom_ hwhere_ horder
    exact ⟨markItems_step _ hitems, markSources_step _ hfrom_, markExprs_step _ hwhere_, markSortKeys_step _ horder⟩
theorem markExprs_c (es : List Expr) : MkC 39 Expr.row mkExpr cnExpr es := markExprs_step es (fun e _ => mkExpr_all.1 e)
theorem markItems_c (es : List Item) : MkC 37 Item.row mkItem cnItem es := markItems_step es (fun e _ => mkExpr_all.2.1 e)
theorem markSortKeys_c (es : List SortKey) : MkC 40 SortKey.row mkSortKey cnSortKey es := markSortKeys_step es (fun e _ => mkExpr_all.2.2.2.1 e)
theorem markSources_c (es : List Source) : MkC 38 Source.row mkSource cnSource es := markSources_step es (fun e _ => mkExpr_all.2.2.1 e)
set_option maxHeartbeats 1000000 in
theorem markQuery_c (distinct : Bool) (items : List Item) (from_ : List Source) (where_ : List Expr) (order : List SortKey) (limit : Int) (q : Int) (w : World) (vs : List Value) (F : List Nat) (h : ValsF w (Query.mk distinct items from_ where_ order limit).row vs F) (hn : F.Nodup) (ho : OwnL w F) (hg : GlW w (fun _ => False)) (hlib : ∀ t ∈ libVars, t.1 ∉ F) (h0 : 0 ≤ q) (h1 : q + (cnL cnItem items : Int) + (cnL cnSource from_ : Int) + (cnL cnExpr where_ : Int) + (cnL cnSortKey order : Int) ≤ 4611686018427387904) :
    callable Tryz.prog 11 = true ∧ Calls Tryz.prog 11 #[.agg vs.toArray, .int .i64 q] w fun e w' => ∃ r, e = .returned r ∧ r = .int .i64 (q + (cnL cnItem items : Int) + (cnL cnSource from_ : Int) + (cnL cnExpr where_ : Int) + (cnL cnSortKey order : Int)) ∧ ValsF w' (Query.mk distinct (mkL mkItem cnItem (q) items) (mkL mkSource cnSource (q + (cnL cnItem items : Int)) from_) (mkL mkExpr cnExpr (q + (cnL cnItem items : Int) + (cnL cnSource from_ : Int)) where_) (mkL mkSortKey cnSortKey (q + (cnL cnItem items : Int) + (cnL cnSource from_ : Int) + (cnL cnExpr where_ : Int)) order) limit).row vs F ∧ OwnL w' F ∧ ChL F w w' := by
  simp only [List.cons_append, List.nil_append, Query.row_mk, Val.row] at h ⊢
  obtain ⟨v0, r0, F0, R0, rfl, c0, hh0, rfl⟩ := vals_cons h
  obtain ⟨rfl, rfl, ok0⟩ := c0
  obtain ⟨v1, r1, F1, R1, rfl, c1, hh1, rfl⟩ := vals_cons hh0
  obtain ⟨v2, r2, F2, R2, rfl, c2, hh2, rfl⟩ := vals_cons hh1
  obtain ⟨v3, r3, F3, R3, rfl, c3, hh3, rfl⟩ := vals_cons hh2
  obtain ⟨v4, r4, F4, R4, rfl, c4, hh4, rfl⟩ := vals_cons hh3
  obtain ⟨v5, r5, F5, R5, rfl, c5, hh5, rfl⟩ := vals_cons hh4
  obtain ⟨rfl, rfl, ok5⟩ := c5
  obtain ⟨rfl, rfl⟩ := vals_nil hh5
  simp only [List.nil_append, List.append_nil] at hn ho hlib ⊢
  have n1 : F1.Nodup := nodup_of hn (by intro x; simp only [List.count_append]; omega)
  have n2 : F2.Nodup := nodup_of hn (by intro x; simp only [List.count_append]; omega)
  have n3 : F3.Nodup := nodup_of hn (by intro x; simp only [List.count_append]; omega)
  have n4 : F4.Nodup := nodup_of hn (by intro x; simp only [List.count_append]; omega)
  have o1 : OwnL w F1 := ho.sub (by intro x hx; simp [hx])
  have l1 : ∀ t ∈ libVars, t.1 ∉ F1 := fun t ht hm => hlib t ht (by simp [hm])
  have o2 : OwnL w F2 := ho.sub (by intro x hx; simp [hx])
  have l2 : ∀ t ∈ libVars, t.1 ∉ F2 := fun t ht hm => hlib t ht (by simp [hm])
  have o3 : OwnL w F3 := ho.sub (by intro x hx; simp [hx])
  have l3 : ∀ t ∈ libVars, t.1 ∉ F3 := fun t ht hm => hlib t ht (by simp [hm])
  have o4 : OwnL w F4 := ho.sub (by intro x hx; simp [hx])
  have l4 : ∀ t ∈ libVars, t.1 ∉ F4 := fun t ht hm => hlib t ht (by simp [hm])
  have d1_2 : ∀ x ∈ F1, x ∉ F2 := fun x hx hy => disj_of hn (by intro x; simp only [List.count_append]; omega) x hx hy
  have d1_3 : ∀ x ∈ F1, x ∉ F3 := fun x hx hy => disj_of hn (by intro x; simp only [List.count_append]; omega) x hx hy
  have d1_4 : ∀ x ∈ F1, x ∉ F4 := fun x hx hy => disj_of hn (by intro x; simp only [List.count_append]; omega) x hx hy
  have d2_1 : ∀ x ∈ F2, x ∉ F1 := fun x hx hy => disj_of hn (by intro x; simp only [List.count_append]; omega) x hx hy
  have d2_3 : ∀ x ∈ F2, x ∉ F3 := fun x hx hy => disj_of hn (by intro x; simp only [List.count_append]; omega) x hx hy
  have d2_4 : ∀ x ∈ F2, x ∉ F4 := fun x hx hy => disj_of hn (by intro x; simp only [List.count_append]; omega) x hx hy
  have d3_1 : ∀ x ∈ F3, x ∉ F1 := fun x hx hy => disj_of hn (by intro x; simp only [List.count_append]; omega) x hx hy
  have d3_2 : ∀ x ∈ F3, x ∉ F2 := fun x hx hy => disj_of hn (by intro x; simp only [List.count_append]; omega) x hx hy
  have d3_4 : ∀ x ∈ F3, x ∉ F4 := fun x hx hy => disj_of hn (by intro x; simp only [List.count_append]; omega) x hx hy
  have d4_1 : ∀ x ∈ F4, x ∉ F1 := fun x hx hy => disj_of hn (by intro x; simp only [List.count_append]; omega) x hx hy
  have d4_2 : ∀ x ∈ F4, x ∉ F2 := fun x hx hy => disj_of hn (by intro x; simp only [List.count_append]; omega) x hx hy
  have d4_3 : ∀ x ∈ F4, x ∉ F3 := fun x hx hy => disj_of hn (by intro x; simp only [List.count_append]; omega) x hx hy
  refine ⟨by kernel_rfl, ?_⟩
  have hcc := fun R => @calls_of_c Tryz.prog w 11 Tryz.f11 _ [.agg [.bool distinct, v1, v2, v3, v4, .int .i64 limit].toArray, .int .i64 q] R Tryz.func11 rfl (Nat.le_of_ble_eq_true rfl)
  refine hcc _ ?_
  simp (maxSteps := 10000000) only [tt, c, cl, cg0, cg1, cOp, cCall, cLoad, cLoadA, cStore, cLoop, cEnd, cRet, argsV, regsV, Go.Vc.oneCell, Nat.add_zero, seval, Tryz.f11, cBox]
  intro b w1 hb hw1
  obtain ⟨hbx, hg1⟩ := box_new hb hw1
  have hlt : ∀ x ∈ F1 ++ (F2 ++ (F3 ++ (F4))), x < b := fun x hx => by rw [hb]; exact Go.Cv.vis_lt (ho.vis x hx)
  replace c1 := c1.grow hg1.grow
  replace o1 := o1.grow hg1.grow
  replace c2 := c2.grow hg1.grow
  replace o2 := o2.grow hg1.grow
  replace c3 := c3.grow hg1.grow
  replace o3 := o3.grow hg1.grow
  replace c4 := c4.grow hg1.grow
  replace o4 := o4.grow hg1.grow
  have hG := glw_gr hg1 hg
  refine ⟨_, box_cell (j := 1) hbx rfl, ?_⟩
  obtain ⟨hcb1, hcl1⟩ := markItems_c items w1 (q) v1 F1 c1 n1 o1 hG l1 (by omega) (by omega)
  refine ⟨hcb1, _, hcl1, ?_⟩
  rintro _ w2 ⟨rfl, c1, o1, g1⟩
  replace hbx := (g1.keep b (lt_of_heap hbx) (fun hm => absurd (hlt b (by simp [hm])) (Nat.lt_irrefl _))).trans hbx
  replace hG := glw_chl g1 hG l1
  replace c2 := c2.chg g1.chg d2_1
  replace o2 := o2.other g1 d2_1
  replace c3 := c3.chg g1.chg d3_1
  replace o3 := o3.other g1 d3_1
  replace c4 := c4.chg g1.chg d4_1
  replace o4 := o4.other g1 d4_1
  have gg0 : ChL (F1 ++ (F2 ++ (F3 ++ (F4)))) w1 w2 := g1.mono (by intro x hx; simp [hx])
  refine Stp.go ?_
  simp (maxSteps := 10000000) only [tt, c, cl, cg0, cg1, cOp, cCall, cLoad, cLoadA, cStore, cLoop, cEnd, cRet, argsV, regsV, Go.Vc.oneCell, Nat.add_zero, seval]
  refine ⟨_, box_cell (j := 2) hbx rfl, ?_⟩
  obtain ⟨hcb2, hcl2⟩ := markSources_c from_ w2 (q + (cnL cnItem items : Int)) v2 F2 c2 n2 o2 hG l2 (by omega) (by omega)
  refine ⟨hcb2, _, hcl2, ?_⟩
  rintro _ w3 ⟨rfl, c2, o2, g2⟩
  replace hbx := (g2.keep b (lt_of_heap hbx) (fun hm => absurd (hlt b (by simp [hm])) (Nat.lt_irrefl _))).trans hbx
  replace hG := glw_chl g2 hG l2
  replace c1 := c1.chg g2.chg d1_2
  replace o1 := o1.other g2 d1_2
  replace c3 := c3.chg g2.chg d3_2
  replace o3 := o3.other g2 d3_2
  replace c4 := c4.chg g2.chg d4_2
  replace o4 := o4.other g2 d4_2
  have gg1 : ChL (F1 ++ (F2 ++ (F3 ++ (F4)))) w2 w3 := g2.mono (by intro x hx; simp [hx])
  refine Stp.go ?_
  simp (maxSteps := 10000000) only [tt, c, cl, cg0, cg1, cOp, cCall, cLoad, cLoadA, cStore, cLoop, cEnd, cRet, argsV, regsV, Go.Vc.oneCell, Nat.add_zero, seval]
  refine ⟨_, box_cell (j := 3) hbx rfl, ?_⟩
  obtain ⟨hcb3, hcl3⟩ := markExprs_c where_ w3 (q + (cnL cnItem items : Int) + (cnL cnSource from_ : Int)) v3 F3 c3 n3 o3 hG l3 (by omega) (by omega)
  refine ⟨hcb3, _, hcl3, ?_⟩
  rintro _ w4 ⟨rfl, c3, o3, g3⟩
  replace hbx := (g3.keep b (lt_of_heap hbx) (fun hm => absurd (hlt b (by simp [hm])) (Nat.lt_irrefl _))).trans hbx
  replace hG := glw_chl g3 hG l3
  replace c1 := c1.chg g3.chg d1_3
  replace o1 := o1.other g3 d1_3
  replace c2 := c2.chg g3.chg d2_3
  replace o2 := o2.other g3 d2_3
  replace c4 := c4.chg g3.chg d4_3
  replace o4 := o4.other g3 d4_3
  have gg2 : ChL (F1 ++ (F2 ++ (F3 ++ (F4)))) w3 w4 := g3.mono (by intro x hx; simp [hx])
  refine Stp.go ?_
  simp (maxSteps := 10000000) only [tt, c, cl, cg0, cg1, cOp, cCall, cLoad, cLoadA, cStore, cLoop, cEnd, cRet, argsV, regsV, Go.Vc.oneCell, Nat.add_zero, seval]
  refine ⟨_, box_cell (j := 4) hbx rfl, ?_⟩
  obtain ⟨hcb4, hcl4⟩ := markSortKeys_c order w4 (q + (cnL cnItem items : Int) + (cnL cnSource from_ : Int) + (cnL cnExpr where_ : Int)) v4 F4 c4 n4 o4 hG l4 (by omega) (by omega)
  refine ⟨hcb4, _, hcl4, ?_⟩
  rintro _ w5 ⟨rfl, c4, o4, g4⟩
  replace hbx := (g4.keep b (lt_of_heap hbx) (fun hm => absurd (hlt b (by simp [hm])) (Nat.lt_irrefl _))).trans hbx
  replace hG := glw_chl g4 hG l4
  replace c1 := c1.chg g4.chg d1_4
  replace o1 := o1.other g4 d1_4
  replace c2 := c2.chg g4.chg d2_4
  replace o2 := o2.other g4 d2_4
  replace c3 := c3.chg g4.chg d3_4
  replace o3 := o3.other g4 d3_4
  have gg3 : ChL (F1 ++ (F2 ++ (F3 ++ (F4)))) w4 w5 := g4.mono (by intro x hx; simp [hx])
  refine Stp.go ?_
  simp (maxSteps := 10000000) only [tt, c, cl, cg0, cg1, cOp, cCall, cLoad, cLoadA, cStore, cLoop, cEnd, cRet, argsV, regsV, Go.Vc.oneCell, Nat.add_zero, seval]
  refine ⟨?_, o1.app (o2.app (o3.app (o4))), (((((hg1.chl _).trans gg0).trans gg1).trans gg2).trans gg3)⟩
  simpa [mkL_len] using (vals_cons_mk (lit_cell ok0) (vals_cons_mk c1 (vals_cons_mk c2 (vals_cons_mk c3 (vals_cons_mk c4 (vals_cons_mk (lit_cell ok5) vals_nil_mk))))))
end Go.Proofs.YthhkmmcgjnecbaaGreatDoor
