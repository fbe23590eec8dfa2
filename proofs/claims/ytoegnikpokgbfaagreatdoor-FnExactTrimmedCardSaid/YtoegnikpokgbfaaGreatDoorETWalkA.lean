/-
  A symbolic walk over functions: its definitions and that it is sound, first half.
  Conditions: none.
-/
import Derived.WalkKit
import Derived.WalkLawsBesides
import Derived.WalkSpells
import Derived.Orders
import GoSem.ClaimData
import Derived.RowKit3
set_option linter.unusedVariables false
set_option linter.unusedSimpArgs false
set_option linter.unusedSectionVars false
namespace Go.Vc
open Go Go.RowKit
inductive CV where
 | v (x : Value)
 | bp (i off : Nat)
 | bs (i len : Nat)
 | dead
inductive SV where
 | c (x : CV)
 | ag (cs : List CV)
inductive Box where
 | str (ty : TypeId) (cs : List CV)
 | arr (ty : TypeId) (vs : List Value) (cap : Nat)
abbrev Regs := Nat → SV
abbrev Lst := List (Nat × Box)
def hid : Obj := .coro none
def vis (m : World) (b : Nat) : Prop := ∃ o, m.heap[b]? = some o ∧ o ≠ hid
structure Grow (m m' : World) : Prop where
 blocks : ∀ b, vis m b → m'.heap[b]? = m.heap[b]?
 os : m'.os = m.os
 tape : m'.tape = m.tape
 output : m'.output = m.output
theorem Grow.refl (m : World) : Grow m m := ⟨fun _ _ => rfl, rfl, rfl, rfl⟩
theorem Grow.vis {m m' : World} (h : Grow m m') {b : Nat} (hb : vis m b) : vis m' b := by
 obtain ⟨o, ho, hn⟩ := hb
 exact ⟨o, (h.blocks b ⟨o, ho, hn⟩).trans ho, hn⟩
theorem vis_of_cell {m : World} {a : Addr} {v : Value} (h : m.cell? a = some v) : vis m a.block := by
 unfold World.cell? at h
 split at h
 ·rename_i c t fr ho
  exact ⟨_, ho, by simp [hid]⟩
 ·cases h
def Wd (w w' : World) : Prop := w.heap.size ≤ w'.heap.size ∧ ∀ a, w'.frozen? a = w.frozen? a
def callable (P : Program) (f : FuncId) : Bool :=
 match P.funcs[f]? with
 | some fn => fn.body.isSome && !(fn.name == "runtime.NumGoroutine")
 | none => false
inductive TS where
 | one
 | agg (k : Nat)
 | bad
 deriving DecidableEq
def tyS (P : Program) (t : TypeId) : TS :=
 match P.underlying t with
 | some (.struct _) | some (.array _ _) => match P.info? t with | some i => .agg i.size | none => .bad
 | some _ => match P.info? t with | some i => if i.size = 1 then .one else .bad | none => .bad
 | none => .bad
def elemS (P : Program) (t : TypeId) : Option (TypeId × Nat × Nat) :=
 match P.underlying t with
 | some (.slice e) => (P.info? e).map fun i => (e, i.size, i.bytes)
 | _ => none
def fieldOff (P : Program) (t : TypeId) (k : Nat) : Option Nat :=
 match P.underlying t with
 | some (.struct fs) => (fs[k]?).bind fun f => match P.info? f.type with | some i => if i.size = 0 then none else some f.offset | none => none
 | _ => none
def zeroC (P : Program) (t : TypeId) : Option (List Value) := (P.info? t).bind fun i => i.zero.map fun z => z.cells.toList
def placesS (P : Program) (t : TypeId) : Option (List (Nat × Nat)) :=
 match P.underlying t with
 | some (.struct fs) => fs.toList.mapM fun f => (P.info? f.type).map fun i => (f.offset, i.size)
 | _ => none
def lenK (P : Program) (t : TypeId) : Nat :=
 match P.underlying t with
 | some (.slice _) => 1
 | some .string => 2
 | _ => 0
end Go.Vc
namespace Go.Vc
open Go Go.RowKit
def splice {α : Type} (cs : List α) (off : Nat) (ys : List α) : List α := cs.take off ++ (ys ++ cs.drop (off + ys.length))
abbrev K0 := Regs → Lst → World → Prop
def setCells (m : World) (ad : Addr) : List Value → World
 | [] => m
 | v :: r => setCells (m.setCell ad v) (ad.add 1) r
def oneCell : Value → Bool
 | .agg _ | .tuple _ => false
 | _ => true
def sizeTS : TS → Nat
 | .one => 1
 | .agg k => k
 | .bad => 0
def zerosOf (P : Program) (e sz : Nat) (k : Nat) : Option (List Value) := match zeroC P e with | some z => if z.length = sz then some (List.replicate k z).flatten else none | none => none
def zeroOk (P : Program) (T : TypeId) : Bool := match elemS P T with | some (e, sz, _) => (zerosOf P e sz 1).isSome | none => true
def convBS (P : Program) (s t : TypeId) : Bool :=
 match P.underlying s, P.underlying t with
 | some (.slice e), some .string => (match P.underlying e with | some (.int .u8) => true | _ => false)
 | _, _ => false
def guardSlot (ops : Array Oper) (j : Nat) : Option Nat := (ops[j]?).bind (·.dst)
def inN : List Nat → Nat → Bool
 | [], _ => false
 | w :: ws, i => if w = i then true else inN ws i
def mixC (ws : List Nat) : CV → CV
 | .bp j o => if inN ws j = true then .dead else .bp j o
 | .bs j n => if inN ws j = true then .dead else .bs j n
 | x => x
def mixS (ws : List Nat) : SV → SV
 | .c x => .c (mixC ws x)
 | .ag cs => .ag (cs.map (mixC ws))
def mix (f : Regs) (ws : List Nat) (g : Regs) : Regs := fun i => if inN ws i = true then g i else mixS ws (f i)
def dstsOps : List Oper → List Nat
 | [] => []
 | o :: r => match o.dst with | some d => d :: dstsOps r | none => dstsOps r
def dsts : Code → List Nat
 | .region _ ops _ => dstsOps ops.toList
 | .seq a b => dsts a ++ dsts b
 | .cond _ a b => dsts a ++ dsts b
 | .block _ c => dsts c
 | .loop c => dsts c
 | .scope c => dsts c
 | _ => []
inductive Plan where
 | done
 | take (i : Nat) (p : Plan)
 | br (i : Nat) (p q : Plan)
 | nobr
def Plan.heads : Plan → List Nat
 | .br i _ q => i :: q.heads
 | _ => []
def lodO (o : Oper) : Bool := match o.op with | .load .. | .convert .. => true | _ => false
def desc (ops : Array Oper) (i : Nat) : Nat → Nat → Bool
 | 0, _ => false
 | fuel + 1, k => k == i || (match ops[k]? with
  | some o => o.after.any fun e => Region.binds .any e && desc ops i fuel e.on
  | none => false)
def inX (xs : List Nat) (o : Oper) : Bool := match o.dst with | some d => xs.contains d | none => false
def wrapRes : List Value → Value
 | [v] => v
 | vs => .tuple vs.toArray
end Go.Vc
namespace Go.Vc
open Go Go.RowKit
theorem getD_put {a : Act} {d : Nat} {v : Value} {n : Nat} (hn : a.tmps.size = n) (i : Nat) : (a.put (some d) v).tmps.getD i undef = if i = d ∧ d < n then v else a.tmps.getD i undef := by
 simp only [Act.put, Array.getD_eq_getD_getElem?, Array.getElem?_setIfInBounds]
 by_cases h : d = i
 ·subst h
  by_cases hd : d < a.tmps.size
  ·simp [hd, hn ▸ hd]
  ·have : ¬ d < n := hn ▸ hd
   simp [hd, this]
 ·have h' : ¬ i = d := fun e => h e.symm
  simp [h, h']
theorem Act.size_put (a : Act) (d : Option Nat) (v : Value) : (a.put d v).tmps.size = a.tmps.size := by cases d <;> simp [Act.put]
theorem Act.defers_put (a : Act) (d : Option Nat) (v : Value) : (a.put d v).defers = a.defers := by cases d <;> rfl
end Go.Vc
namespace Go.Vc
open Go Go.RowKit
section
variable {P : Program} {n : Nat} {m0 w0 : World} {β κ : Nat → Nat} {f : Regs} {L : Lst} {m : World} {a : Act} {w : World}
theorem wp_value {o : Oper} {Ka : Act → World → Prop} {Q : Exit → Act → World → Prop} {v : Value} {w' : World} (hr : (execOp a.eval o).run P w = .ok (.value v) w') (h : Ka (a.put o.dst v) w') : o.wp P a w Ka Q := by
 unfold Oper.wp; rw [hr]; exact h
theorem wp_skipped {o : Oper} {Ka : Act → World → Prop} {Q : Exit → Act → World → Prop} {w' : World} (hr : (execOp a.eval o).run P w = .ok .skip w') (h : Ka (a.put o.dst undef) w') : o.wp P a w Ka Q := by
 unfold Oper.wp; rw [hr]; exact h
theorem run_v {s : Sem Value} {v : Value} {w' : World} (h : s.run P w = .ok v w') : (do pure (Next.value (← s)) : Sem Next).run P w = .ok (.value v) w' := by
 simp [h]
theorem tyS_one {t : TypeId} (h : tyS P t = .one) (w : World) : (isAgg t).run P w = .ok false w ∧ (sizeOf t).run P w = .ok 1 w := by
 unfold tyS at h
 unfold isAgg underlying sizeOf typeInfo
 cases hu : P.underlying t with
 | none => simp [hu] at h
 | some d =>
  cases hi : P.info? t with
  | none => cases d <;> simp [hu, hi] at h
  | some i => cases d <;> simp only [hu, hi] at h <;> first | (cases h; done) | (split at h <;> first | (cases h; done) | (rename_i h1; simp [h1, hi, hu]))
theorem tyS_agg {t : TypeId} {k : Nat} (h : tyS P t = .agg k) (w : World) : (isAgg t).run P w = .ok true w ∧ (sizeOf t).run P w = .ok k w := by
 unfold tyS at h
 unfold isAgg underlying sizeOf typeInfo
 cases hu : P.underlying t with
 | none => simp [hu] at h
 | some d =>
  cases hi : P.info? t with
  | none => cases d <;> simp [hu, hi] at h
  | some i => cases d <;> simp only [hu, hi, TS.agg.injEq] at h <;> first | (cases h; done) | (subst h; simp [hi, hu]) | (split at h <;> cases h)
theorem tyS_run {t : TypeId} (h : tyS P t ≠ .bad) (w : World) : (sizeOf t).run P w = .ok (sizeTS (tyS P t)) w := by
 cases ht : tyS P t with
 | one => exact (tyS_one ht w).2
 | agg k => exact (tyS_agg ht w).2
 | bad => exact absurd ht h
end
end Go.Vc
namespace Go.Vc
open Go Go.RowKit
section
variable {P : Program} {n : Nat} {m0 w0 : World} {β κ : Nat → Nat} {f : Regs} {L : Lst} {m : World} {a : Act} {w : World}
 {K : K0} {Ka : Act → World → Prop} {Q : Exit → Act → World → Prop}
theorem add_lit0 (b o j : Nat) : (⟨b, o, none⟩ : Addr).add j = ⟨b, o + j, none⟩ := by unfold Addr.add; split <;> simp_all
theorem run_alloc_box (ty : TypeId) (v : Value) : (newVar ty v).run P w = .ok ⟨w.heap.size, 0, none⟩ (w.alloc (.cells v.cells ty)) := by
 simp [newVar, newRow]
theorem zeroC_run {t : TypeId} {z : List Value} (h : zeroC P t = some z) (w : World) : ∃ v, (zeroValue t).run P w = .ok v w ∧ v.cells.toList = z := by
 unfold zeroC at h
 unfold zeroValue typeInfo
 cases hi : P.info? t with
 | none => simp [hi] at h
 | some i =>
  cases hz : i.zero with
  | none => simp [hi, hz] at h
  | some v => simp only [hi, hz, Option.bind_some, Option.map_some, Option.some.injEq] at h; exact ⟨v, by simp [hi, hz], h⟩
theorem run_loadVar_one {t : TypeId} (ht : tyS P t = .one) {ad : Addr} {v : Value} (hc : w.cell? ad = some v) : (loadVar t ad).run P w = .ok v w := by
 simp [loadVar, (tyS_one ht w).1, hc]
theorem run_loadVar_agg {t : TypeId} {k : Nat} (ht : tyS P t = .agg k) {ad : Addr} {vs : List Value} (hl : vs.length = k) (hc : ∀ j v, vs[j]? = some v → w.cell? (ad.add j) = some v) : (loadVar t ad).run P w = .ok (.agg vs.toArray) w := by
 have := run_loadCells_list (P := P) w ad vs hc
 rw [hl] at this
 simp [loadVar, (tyS_agg ht w).1, (tyS_agg ht w).2, this]
theorem oneCell_eq (v : Value) : v.oneCell' = oneCell v := by cases v <;> rfl
theorem run_storeCells_mem : ∀ (vs : List Value) (ad : Addr) (i : Nat) (w : World), ad.spot = none → (∀ v ∈ vs, oneCell v = true) →
 (∀ j, j < vs.length → (w.cell? (ad.add (i + j))).isSome = true ∧ w.frozen? (ad.add (i + j)) = false) → (storeCells ad vs i).run P w = .ok () (setCells w (ad.add i) vs)
 | [], _, _, _, _, _, _ => rfl
 | v :: r, ad, i, w, hsp, h1, hc => by
  have hadd : ∀ k, ad.add k = ⟨ad.block, ad.off + k, none⟩ := fun k => by
   obtain ⟨b, o, s⟩ := ad
   have hsp : s = none := hsp
   subst hsp; exact add_lit0 b o k
  obtain ⟨h0, h0f⟩ := hc 0 (by simp)
  obtain ⟨u, hu⟩ := Option.isSome_iff_exists.1 h0
  simp only [Nat.add_zero] at hu h0f
  have hst : (store (ad.add i) v).run P w = .ok () (w.setCell (ad.add i) v) := by
   rw [run_store P w _ v _ (by rw [oneCell_eq]; exact h1 v (by simp)), hu]; simp [h0f]
  have ih := run_storeCells_mem r ad (i + 1) (w.setCell (ad.add i) v) hsp (fun x hx => h1 x (by simp [hx])) (fun j hj => by
   obtain ⟨p1, p2⟩ := hc (j + 1) (by simp; omega)
   rw [show i + 1 + j = i + (j + 1) by omega]
   refine ⟨?_, by rw [World.frozen?_setCell]; exact p2⟩
   rw [World.cell?_setCell_other _ _ _ _ (by rw [hadd, hadd]; intro e; injection e with _ e _; omega)]
   exact p1)
  simp only [storeCells, Sem.run_bind, hst, Result.andThen_ok, ih, setCells]
  congr 2
  rw [hadd, hadd]
  show _ = (⟨ad.block, ad.off + i, none⟩ : Addr).add 1
  rw [add_lit0]; congr 1
end
end Go.Vc
namespace Go.Vc
open Go Go.RowKit
section
variable {P : Program} {n : Nat} {m0 w0 : World} {β κ : Nat → Nat} {f : Regs} {L : Lst} {m : World} {a : Act} {w : World}
 {K : K0} {Ka : Act → World → Prop} {Q : Exit → Act → World → Prop}
theorem store_run {o : Oper} {t : TypeId} {x y : Operand} (ho : o.op = .store t x y) {ad : Addr} (he : a.eval x = .pointer (some ad)) (hsz : (a.eval y).cells.size = sizeTS (tyS P t)) (hb : tyS P t ≠ .bad)
 {w' : World} (hr : (storeCells ad (a.eval y).cells.toList).run P w = .ok () w') : (execOp a.eval o).run P w = .ok .skip w' := by
 simp [execOp, ho, Instr.storeAt, Instr.sureAddr, he, storeVar, tyS_run hb w, hsz, hr]
theorem fold_splice : ∀ (l : List Value) (k : Nat) (cs : Array Value) (off : Nat), off + k + l.length ≤ cs.size →
 ((l.zipIdx k).foldl (fun cs (p : Value × Nat) => cs.setIfInBounds (off + p.2) p.1) cs).toList = cs.toList.take (off + k) ++ l ++ cs.toList.drop (off + k + l.length)
 | [], k, cs, off, _ => by simp
 | v :: r, k, cs, off, h => by
  simp only [List.zipIdx_cons, List.foldl_cons]
  rw [fold_splice r (k + 1) (cs.setIfInBounds (off + k) v) off (by simp at h ⊢; omega)]
  have := list_seg_step cs.toList (off + k) v r (by simp at h ⊢; omega)
  simp only [Array.toList_setIfInBounds]
  rw [show off + (k + 1) = off + k + 1 by omega, this]
  simp [Nat.add_comm]
end
end Go.Vc
namespace Go.Vc
open Go Go.RowKit
section
variable {P : Program} {n : Nat} {m0 w0 : World} {β κ : Nat → Nat} {f : Regs} {L : Lst} {m : World} {a : Act} {w : World}
 {K : K0} {Ka : Act → World → Prop} {Q : Exit → Act → World → Prop}
theorem callFunc_run {g : FuncId} (hc : callable P g = true) (args : Array Value) (w : World) : (callFunc g args).run P w = .ok (.enter g args) w := by
 unfold callable at hc
 cases hf : P.funcs[g]? with
 | none => simp [hf] at hc
 | some fn =>
  simp only [hf, Bool.and_eq_true, Bool.not_eq_true'] at hc
  have hb : fn.body.isNone = false := by cases hb : fn.body <;> simp_all
  have hn : (fn.name == "runtime.NumGoroutine") = false := hc.2
  have hn' : ¬ fn.name = "runtime.NumGoroutine" := by simpa using hn
  have hb' : ¬ fn.body = none := fun e => by simp [e] at hb
  simp [callFunc, hf, hn', hb']
end
end Go.Vc
namespace Go.Vc
open Go Go.RowKit
section
variable {P : Program} {n : Nat} {m0 w0 : World} {β κ : Nat → Nat} {f : Regs} {L : Lst} {m : World} {a : Act} {w : World}
 {K : K0} {Ka : Act → World → Prop} {Q : Exit → Act → World → Prop}
theorem underlying_run {t : TypeId} {d : TypeDesc} (h : P.underlying t = some d) (w : World) : (underlying t).run P w = .ok d w := by simp [underlying, h]
theorem elemS_spec {T e sz bytes : Nat} (h : elemS P T = some (e, sz, bytes)) : P.underlying T = some (.slice e) ∧ ∃ i, P.info? e = some i ∧ i.size = sz ∧ i.bytes = bytes := by
 unfold elemS at h
 split at h
 ·rename_i e' hu
  cases hi : P.info? e' with
  | none => simp [hi] at h
  | some i => simp only [hi, Option.map_some, Option.some.injEq, Prod.mk.injEq] at h; obtain ⟨rfl, rfl, rfl⟩ := h; exact ⟨hu, i, hi, rfl, rfl⟩
 ·cases h
theorem run_mapM_places (fs : List Field) (pl : List (Nat × Nat)) (w : World) (h : fs.mapM (fun f => (P.info? f.type).map fun i => (f.offset, i.size)) = some pl) :
 (fs.mapM (fun f => do pure (f.offset, ← sizeOf f.type) : Field → Sem (Nat × Nat))).run P w = .ok pl w := by
 induction fs generalizing pl with
 | nil => simp at h; subst h; rfl
 | cons x r ih =>
  simp only [List.mapM_cons] at h ⊢
  cases hx : P.info? x.type with
  | none => simp [hx] at h
  | some i =>
   cases hr : r.mapM (fun f => (P.info? f.type).map fun i => (f.offset, i.size)) with
   | none => simp [hx, hr] at h
   | some ys =>
    simp [hx, hr] at h
    subst h
    have := ih ys hr
    simp [sizeOf, typeInfo, hx] at this ⊢
    simp [this]
theorem flat_get (l : List Value) : ∀ (N k : Nat), ((List.replicate N l).flatten)[k]? = if k < N * l.length then l[k % l.length]? else none
 | 0, k => by simp
 | N + 1, k => by
  simp only [List.replicate_succ, List.flatten_cons]
  by_cases hk : k < l.length
  ·rw [List.getElem?_append_left hk, Nat.mod_eq_of_lt hk, if_pos]
   rw [Nat.add_mul]; omega
  ·rw [List.getElem?_append_right (by omega), flat_get l N (k - l.length)]
   have h1 : (k - l.length) % l.length = k % l.length := (Nat.mod_eq_sub_mod (by omega)).symm
   rw [h1, Nat.add_mul]
   by_cases hk2 : k - l.length < N * l.length
   ·rw [if_pos hk2, if_pos (by omega)]
   ·rw [if_neg hk2, if_neg (by omega)]
theorem toList_made (z : Array Value) (N : Nat) (hz : 0 < z.size) : ((Array.range (N * z.size)).map (z[· % z.size]!)).toList = (List.replicate N z.toList).flatten := by
 apply List.ext_getElem?
 intro k
 rw [flat_get]
 simp only [Array.length_toList]
 by_cases hk : k < N * z.size
 ·have : k % z.size < z.size := Nat.mod_lt _ hz
  simp [hk, this]
 ·simp [hk]
theorem zerosOf_spec {e sz N : Nat} {zs : List Value} (h : zerosOf P e sz N = some zs) (w : World) : ∃ zv, (zeroValue e).run P w = .ok zv w ∧ zv.cells.size = sz ∧ zs = (List.replicate N zv.cells.toList).flatten := by
 unfold zerosOf at h
 split at h
 case h_2 => cases h
 rename_i z hz
 split at h
 case isFalse => cases h
 rename_i hl
 simp only [Option.some.injEq] at h
 obtain ⟨zv, hzv, hzc⟩ := zeroC_run hz w
 exact ⟨zv, hzv, by rw [← hl, ← hzc]; simp, by rw [hzc]; exact h.symm⟩
theorem splice_length {α : Type} {cs ys : List α} {off : Nat} (h : off + ys.length ≤ cs.length) : (splice cs off ys).length = cs.length := by
 simp [splice]; omega
theorem hm63 {len sz : Nat} (h : len * sz ≤ 16777216) (h0 : 0 < sz) : len ≤ maxLen := by
 have := Nat.le_mul_of_pos_right len h0
 simp only [maxLen]; omega
end
end Go.Vc
