/-
  The symbolic walk is sound, second half; the laws of data; what a reading says.
  Conditions: none.
-/
import Derived.Test.YtoegnikpokgbfaaGreatDoorETWalkA
import Derived.Laws.IdiomStrings
import Derived.OrdersHeld
import Derived.Scope
import Derived.Laws.StructEq
import Derived.ChangeKeysEq
import Derived.Lib.SliceRun
import Derived.ChangeArms
import Derived.Carry
import Derived.DataReads
import Derived.RowKit3
set_option linter.unusedVariables false
set_option linter.unusedSimpArgs false
set_option linter.unusedSectionVars false
namespace Go.Vc
open Go Go.RowKit
section
variable {P : Program} {n : Nat} {m0 w0 : World} {β κ : Nat → Nat} {f : Regs} {L : Lst} {m : World} {a : Act} {w : World}
 {K : K0} {Ka : Act → World → Prop} {Q : Exit → Act → World → Prop}
theorem fieldOff_spec {T k q : Nat} (h : fieldOff P T k = some q) (ad : Addr) (w : World) : (Instr.fieldAt T (.pointer (some ad)) k).run P w = .ok (.pointer (some (ad.add q))) w := by
 unfold fieldOff at h
 split at h
 case h_2 => cases h
 rename_i fs hu
 cases hk : fs[k]? with
 | none => simp [hk] at h
 | some fd =>
  simp only [hk, Option.bind_some] at h
  split at h
  case h_2 => cases h
  rename_i i hi
  split at h
  case isTrue => cases h
  rename_i hne
  simp only [Option.some.injEq] at h
  subst h
  simp [Instr.fieldAt, underlying_run hu, hk, Instr.sureAddr, fieldPlace, sizeOf, typeInfo, hi, hne]
theorem run_append_room' (t ty e : TypeId) (i : TypeInfo) (ht : P.underlying t = some (.slice e)) (hi : P.info? e = some i)
 (g sLen sCap : Nat) (cur : Array Value) (hg : w.heap[g]? = some (.cells cur e (0, 0)))
 (tv : Value) (q : Nat) (news : List Value) (hq : (Builtin.lenOf tv).run P w = .ok q w) (hf : (Builtin.firstCells i.size q tv).run P w = .ok news.toArray w) (h1 : ∀ u ∈ news, u.oneCell' = true)
 (hroom : sLen + q ≤ sCap) (hfit : sLen * i.size + news.length ≤ cur.size) :
 (Builtin.append_ #[t, t] ty #[.slice (some ⟨g, 0, none⟩) sLen sCap, tv]).run P w =
  .ok (.slice (some ⟨g, 0, none⟩) (sLen + q) sCap) (w.setRow g (cur.toList.take (sLen * i.size) ++ news ++ cur.toList.drop (sLen * i.size + news.length)).toArray) := by
 have hst := run_storeCells_at P g (sLen * i.size) e news 0 cur w hg (by simpa using hfit) h1
 simp only [Nat.add_zero] at hst
 simp [Builtin.append_, run_underlying ht, sizeOf, typeInfo, hi, hq, hroom, hf, Addr.add_lit, hst]
theorem run_append_grow' (t ty e : TypeId) (i : TypeInfo) (z : Value) (ht : P.underlying t = some (.slice e)) (hi : P.info? e = some i) (hz : i.zero = some z)
 (base : Option Addr) (sLen sCap : Nat) (olds : List Value) (hfo : (Builtin.firstCells i.size sLen (.slice base sLen sCap)).run P w.drew = .ok olds.toArray w.drew)
 (tv : Value) (q : Nat) (news : List Value) (hq : (Builtin.lenOf tv).run P w = .ok q w) (hf : (Builtin.firstCells i.size q tv).run P w.drew = .ok news.toArray w.drew)
 (hg : sCap < sLen + q) (h63 : ((sLen + q : Nat) : Int) ≤ 9223372036854775807) (hfit : Builtin.nextslicecap (sLen + q) sCap * i.bytes ≤ 281474976710656) :
 (Builtin.append_ #[t, t] ty #[.slice base sLen sCap, tv]).run P w =
  .ok (.slice (some ⟨w.heap.size, 0, none⟩) (sLen + q) (grownCap w (sLen + q) sCap e))
   (w.drew.alloc (.cells (olds.toArray ++ news.toArray ++ Builtin.zeroCells z.cells (grownCap w (sLen + q) sCap e - (sLen + q))) e)) := by
 have hn : ¬ (sLen + q ≤ sCap) := by omega
 have h63' : ¬ (9223372036854775807 < ((sLen : Int) + (q : Int))) := by omega
 have h48' : ¬ (281474976710656 < Builtin.nextslicecap (sLen + q) sCap * i.bytes) := by omega
 simp [Builtin.append_, run_underlying ht, sizeOf, typeInfo, zeroValue, hi, hz, hq, hn, h63', h48', Question.forced, hf, hfo, newRow, grownCap]
 congr 2
 apply Array.ext'
 simp [List.append_assoc]
theorem zeroCells_len (z : Array Value) (k : Nat) : (Builtin.zeroCells z k).size = k * z.size := by simp [Builtin.zeroCells]
end
end Go.Vc
namespace Go.Vc
open Go Go.RowKit
section
variable {P : Program} {n : Nat} {m0 w0 : World} {β κ : Nat → Nat} {f : Regs} {L : Lst} {m : World} {a : Act} {w : World}
 {K : K0} {Ka : Act → World → Prop} {Q : Exit → Act → World → Prop}
theorem len_run {o : Oper} {c : Call} {x : Operand} {T : Nat} (ho : o.op = .call c) (hc : c.callee = .builtin .len) (ha : c.args = #[x]) (ht : c.argTypes = #[T]) {k : Nat}
 (hv : (∃ b ln cp, a.eval x = .slice b ln cp ∧ k = ln ∧ ∃ e, P.underlying T = some (.slice e)) ∨ (∃ s, a.eval x = .string s ∧ k = s.size ∧ P.underlying T = some .string)) : (execOp a.eval o).run P w = .ok (.value (.int .i64 k)) w := by
 rcases hv with ⟨b, ln, cp, he, rfl, e, hu⟩ | ⟨s, he, rfl, hu⟩
 ·simp [execOp, ho, resolve, hc, ha, ht, invoke, builtin, Builtin.len_, underlying_run hu, he, goInt]
 ·simp [execOp, ho, resolve, hc, ha, ht, invoke, builtin, Builtin.len_, underlying_run hu, he, goInt]
theorem convBS_spec {s t : TypeId} (h : convBS P s t = true) : ∃ e, P.underlying s = some (.slice e) ∧ P.underlying e = some (.int .u8) ∧ P.underlying t = some .string := by
 unfold convBS at h
 split at h
 ·rename_i e h1 h2
  split at h
  ·rename_i h3; exact ⟨e, h1, h3, h2⟩
  ·cases h
 ·cases h
theorem conv_run {o : Oper} {s t : TypeId} {x : Operand} (ho : o.op = .convert s t x) (hc : convBS P s t = true) {ad : Addr} {ln cp : Nat} (he : a.eval x = .slice (some ad) ln cp) {bs : List UInt8} (hl : bs.length = ln)
 (hb : ∀ j b, bs[j]? = some b → w.cell? (ad.add j) = some (.int .u8 (b.toNat : Int))) : (execOp a.eval o).run P w = .ok (.value (.string ⟨bs.toArray⟩)) w := by
 obtain ⟨e, h1, h2, h3⟩ := convBS_spec hc
 subst hl
 have := run_convert_bytes_back (P := P) w s t e ad cp bs h1 h2 h3 (fun j hj => hb j _ (List.getElem?_eq_getElem hj))
 simp [execOp, ho, he, this]
theorem arr1 {α : Type} {xs : Array α} {x : α} (h : xs.toList = [x]) : xs = #[x] := by rw [← Array.toArray_toList (xs := xs), h]
theorem arr2 {α : Type} {xs : Array α} {x y : α} (h : xs.toList = [x, y]) : xs = #[x, y] := by rw [← Array.toArray_toList (xs := xs), h]
theorem map1 {α γ : Type} {g : α → γ} {l : List α} {y : γ} (h : l.map g = [y]) : ∃ x, l = [x] ∧ g x = y := by
 cases l with
 | nil => simp at h
 | cons x r => cases r with
  | nil => simp at h; exact ⟨x, rfl, h⟩
  | cons _ _ => simp at h
theorem map2 {α γ : Type} {g : α → γ} {l : List α} {y z : γ} (h : l.map g = [y, z]) : ∃ x u, l = [x, u] ∧ g x = y ∧ g u = z := by
 cases l with
 | nil => simp at h
 | cons x r => cases r with
  | nil => simp at h
  | cons u r => cases r with
   | nil => simp at h; exact ⟨x, u, rfl, h.1, h.2⟩
   | cons _ _ => simp at h
end
end Go.Vc
namespace Go.Vc
open Go Go.RowKit
def Stay (w w' : World) : Prop := w.heap.size ≤ w'.heap.size ∧ ∀ b, b < w.heap.size → w'.heap[b]? = w.heap[b]?
theorem Stay.refl (w : World) : Stay w w := ⟨Nat.le_refl _, fun _ _ => rfl⟩
theorem Stay.trans {a b c : World} (h : Stay a b) (k : Stay b c) : Stay a c := ⟨Nat.le_trans h.1 k.1, fun i hi => (k.2 i (Nat.lt_of_lt_of_le hi h.1)).trans (h.2 i hi)⟩
theorem Stay.alloc (w : World) (o : Obj) : Stay w (w.alloc o) := ⟨by simp, fun _ hb => Go.heap_alloc_old w o hb⟩
theorem Stay.cell {w w' : World} (h : Stay w w') {ad : Addr} {v : Value} (hc : w.cell? ad = some v) : w'.cell? ad = some v := by
 have hv := vis_of_cell hc
 have hb : ad.block < w.heap.size := by obtain ⟨o, ho, _⟩ := hv; exact (Array.getElem?_eq_some_iff.1 ho).1
 have := h.2 ad.block hb
 unfold World.cell? at *
 rw [this]; exact hc
section
variable {P : Program} {n : Nat} {m0 w0 : World} {β κ : Nat → Nat} {f : Regs} {L : Lst} {m : World} {a : Act} {w : World}
 {K : K0} {Ka : Act → World → Prop} {Q : Exit → Act → World → Prop}
def Sw (o : Oper) (w w' : World) : Prop := lodO o = true → Stay w w'
end
end Go.Vc
namespace Go.Vc
open Go Go.RowKit
section
variable {P : Program} {n : Nat} {m0 w0 : World} {β κ : Nat → Nat} {f : Regs} {L : Lst} {m : World} {a : Act} {w : World}
 {K : K0} {Ka : Act → World → Prop} {Q : Exit → Act → World → Prop}
variable {ops : Array Oper}
def wpAnyB (P : Program) (ops : Array Oper) (ex : Oper → Bool) (Q : Exit → Act → World → Prop) : Nat → Array Bool → Act → World → Prop
 | 0, listed, a, w => Region.ready .any ops listed = [] ∧ Q .normal a w
 | fuel + 1, listed, a, w =>
  (Region.ready .any ops listed = [] → Q .normal a w) ∧
  ∀ i ∈ Region.ready .any ops listed, wpOp P ops Q i (fun a' w' => ((∃ o, ops[i]? = some o ∧ ex o = true) ∨ Stay w w') ∧ wpAnyB P ops ex Q fuel (listed.setIfInBounds i true) a' w') a w
theorem wpAny_of_B {ex : Oper → Bool} : ∀ (fuel : Nat) (listed : Array Bool) (a : Act) (w : World), wpAnyB P ops ex Q fuel listed a w → wpAny P .any ops Q fuel listed a w
 | 0, _, _, _, h => h
 | fuel + 1, _, _, _, h => ⟨h.1, fun i hi => wpOp_mono (fun a' w' h' => wpAny_of_B fuel _ a' w' h'.2) (h.2 i hi)⟩
def Closed (ops : Array Oper) (listed : Array Bool) : Prop := ∀ k o, ops[k]? = some o → listed.getD k true = true → ∀ e ∈ o.after, Region.binds .any e = true → listed.getD e.on false = true
theorem getD_tf {listed : Array Bool} {k : Nat} (h : listed.getD k false = true) : listed.getD k true = true := by
 rw [Array.getD_eq_getD_getElem?] at *
 cases hk : listed[k]? with
 | none => simp
 | some b => simp [hk] at h ⊢; exact h
theorem getD_set_mono {listed : Array Bool} {i k : Nat} (h : listed.getD k false = true) : (listed.setIfInBounds i true).getD k false = true := by
 rw [Array.getD_eq_getD_getElem?] at *
 rw [Array.getElem?_setIfInBounds]
 split
 ·split
  ·simp
  ·rename_i hik hlt; subst hik; simp [Array.getElem?_eq_none (Nat.le_of_not_lt hlt)] at h
 ·exact h
theorem Closed.set {listed : Array Bool} (h : Closed ops listed) {i : Nat} (hr : i ∈ Region.ready .any ops listed) : Closed ops (listed.setIfInBounds i true) := by
 intro k o hk hl e he hb
 refine getD_set_mono ?_
 by_cases hki : k = i
 ·subst hki
  obtain ⟨_, oj, hoj, hall⟩ := mem_ready.1 hr
  rw [hk] at hoj; injection hoj with hoj; subst hoj
  exact hall e he hb
 ·exact h k o hk (by rw [getD_set_ne true (fun e => hki e.symm)] at hl; exact hl) e he hb
theorem desc_listed {listed : Array Bool} (hc : Closed ops listed) {i : Nat} : ∀ (fuel k : Nat), desc ops i fuel k = true → listed.getD k false = true → listed.getD i false = true
 | 0, _, h, _ => by simp [desc] at h
 | fuel + 1, k, h, hl => by
  simp only [desc, Bool.or_eq_true, beq_iff_eq] at h
  rcases h with rfl | h
  ·exact hl
  ·split at h
   ·rename_i o ho
    obtain ⟨e, he, hb⟩ := Array.any_eq_true'.1 h
    simp only [Bool.and_eq_true] at hb
    exact desc_listed hc fuel e.on hb.2 (hc k o ho (getD_tf hl) e he hb.1)
   ·cases h
theorem desc_ready {listed : Array Bool} (hc : Closed ops listed) {i j fuel : Nat} (hr : j ∈ Region.ready .any ops listed) (hj : j ≠ i) (h : desc ops i fuel j = true) : listed.getD i false = true := by
 cases fuel with
 | zero => simp [desc] at h
 | succ fuel =>
  obtain ⟨_, oj, hoj, hall⟩ := mem_ready.1 hr
  simp only [desc, Bool.or_eq_true, beq_iff_eq, hj, false_or, hoj] at h
  obtain ⟨e, he, hb⟩ := Array.any_eq_true'.1 h
  simp only [Bool.and_eq_true] at hb
  exact desc_listed hc fuel e.on hb.2 (hall e he hb.1)
theorem ready_not {listed : Array Bool} {i : Nat} (hr : i ∈ Region.ready .any ops listed) : listed.getD i false ≠ true := by
 intro h
 have h0 := (mem_ready.1 hr).1
 rw [getD_tf h] at h0
 cases h0
theorem wpAnyB_first {ex : Oper → Bool} {i : Nat} {oi : Oper} {v : Value} (hi : ops[i]? = some oi) (hsel : ∀ (j : Nat) (o : Oper) cs b, ops[j]? = some o → o.op ≠ .select cs b)
 (hQ : ∀ c a w, Q (.panic c) (a.put oi.dst v) w → Q (.panic c) a w) :
 ∀ (fuel : Nat) (listed : Array Bool) (a : Act) (w : World), Closed ops listed →
  (∀ j oj, ops[j]? = some oj → j ≠ i → listed.getD j true = false → (∀ e ∈ oj.after, Region.binds .any e = true → e.on ≠ i) → oi.apart ops oj = true) →
  (lodO oi = true → ∀ j oj, ops[j]? = some oj → listed.getD j true = false → ex oj = true → desc ops i ops.size j = true) →
  i ∈ Region.ready .any ops listed → YieldsIf P ops (Sw oi w) oi v a →
  wpAnyB P ops ex Q fuel (listed.setIfInBounds i true) (a.put oi.dst v) w → wpAnyB P ops ex Q (fuel + 1) listed a w := by
 intro fuel
 induction fuel with
 | zero =>
  intro listed a w _ _ _ hr hy H
  refine ⟨fun h => (by rw [h] at hr; cases hr), fun j hj => ?_⟩
  by_cases hji : j = i
  ·subst hji; exact hy.wpOp hi (fun _ => Stay.refl w) ⟨.inr (Stay.refl w), H⟩
  ·have := ready_mono hj hji
   rw [H.1] at this
   cases this
 | succ fuel ih =>
  intro listed a w hcl hfree hex hr hy H
  refine ⟨fun h => (by rw [h] at hr; cases hr), fun j hj => ?_⟩
  by_cases hji : j = i
  ·subst hji; exact hy.wpOp hi (fun _ => Stay.refl w) ⟨.inr (Stay.refl w), H⟩
  ·have h1 := H.2 j (ready_mono hj hji)
   obtain ⟨hjun, oj, hoj, hall⟩ := mem_ready.1 hj
   have hnot : ∀ e ∈ oj.after, Region.binds .any e = true → e.on ≠ i := fun e he hb heq => ready_not hr (heq ▸ hall e he hb)
   have h2 := wpOp_putIf hoj (hfree j oj hoj hji hjun hnot) (fun cs b => hsel i oi cs b hi) (fun cs b => hsel j oj cs b hoj) hQ hy h1
   have hun' : ∀ k, (listed.setIfInBounds j true).getD k true = false → listed.getD k true = false := fun k hun => by
    by_cases hjk : j = k
    ·subst hjk; exact hjun
    ·rw [getD_set_ne true hjk] at hun; exact hun
   refine wpOp_mono (fun a' w' h3 => ?_) h2
   obtain ⟨hy', hst, hrest⟩ := h3
   have hst' : lodO oi = true → Stay w w' := fun hl => by
    rcases hst with ⟨o, ho, hx⟩ | hst
    ·rw [hoj] at ho; injection ho with ho; subst ho
     exact absurd (desc_ready hcl hj hji (hex hl j oj hoj hjun hx)) (ready_not hr)
    ·exact hst
   have hy'' : YieldsIf P ops (Sw oi w') oi v a' := hy'.imp (fun ⟨p, q⟩ => ⟨p, fun w'' hw => q w'' fun hl => (hst' hl).trans (hw hl)⟩) id
   refine ⟨hst, ih (listed.setIfInBounds j true) a' w' (hcl.set hj) (fun k ok hk hki hun hno => hfree k ok hk hki (hun' k hun) hno)
    (fun hl k ok hk hun hx => hex hl k ok hk (hun' k hun) hx) (ready_mono hr (Ne.symm hji)) hy'' ?_⟩
   rw [Array.setIfInBounds_comm _ _ hji]
   exact hrest
end
end Go.Vc
namespace Go.Vc
open Go Go.RowKit
section
variable {P : Program} {n : Nat} {m0 w0 : World} {β κ : Nat → Nat} {f : Regs} {L : Lst} {m : World} {a : Act} {w : World}
 {K : K0} {Q : Exit → Act → World → Prop} {ops : Array Oper}
theorem dst_mem_l : ∀ {l : List Oper} {i : Nat} {o : Oper}, l[i]? = some o → ∀ j ∈ o.dst.toList, j ∈ dstsOps l
 | [], _, _, h, _, _ => by simp at h
 | x :: r, 0, o, h, j, hj => by simp at h; subst h; cases hd : x.dst <;> simp_all [dstsOps]
 | x :: r, i + 1, o, h, j, hj => by
  have := dst_mem_l (l := r) (by simpa using h) j hj
  cases hd : x.dst <;> simp_all [dstsOps]
theorem dst_mem {i : Nat} {o : Oper} (h : ops[i]? = some o) : ∀ j ∈ o.dst.toList, j ∈ dstsOps ops.toList := dst_mem_l (by simpa using h)
theorem closed_start : Closed ops (Array.replicate ops.size false) := fun k o hk hl => by
 have := (Array.getElem?_eq_some_iff.1 hk).1
 simp [Array.getD_eq_getD_getElem?, this] at hl
end
end Go.Vc
namespace Go.Vc
open Go Go.RowKit
section
variable {P : Program} {xs : List Nat} {n : Nat} {m0 w0 : World} {β κ : Nat → Nat} {f : Regs} {L : Lst} {m : World} {a : Act} {w : World}
 {K : K0} {Q : Exit → Act → World → Prop} {ops : Array Oper}
structure Fin (m0 w0 mB wB : World) : Prop where
 wd : Wd w0 wB
 gd : ∀ b, b < w0.heap.size → ¬ vis m0 b → ¬ vis mB b ∧ wB.heap[b]? = w0.heap[b]?
variable {lt : List Nat} {S M : Array Bool} {mB wB : World} {g : Nat → Nat}
end
end Go.Vc
namespace Go.Vc
open Go Go.RowKit
section
variable {P : Program} {n : Nat} {m0 w0 : World} {β κ : Nat → Nat} {f : Regs} {L : Lst} {m : World} {a : Act} {w : World}
theorem inN_iff : ∀ {ws : List Nat} {i : Nat}, inN ws i = true ↔ i ∈ ws
 | [], i => by simp [inN]
 | w :: ws, i => by
  simp only [inN, List.mem_cons]
  by_cases h : w = i
  ·simp [h]
  ·simp [h, fun e => h (Eq.symm e), inN_iff (ws := ws)]; exact fun e => absurd e.symm h
theorem wp_loop_nat {c : Code} {Q : Exit → Act → World → Prop} (J : Nat → Act → World → Prop) (round : ∀ k a w, J k a w → c.wp P (Exit.then (fun a' w' => ∃ k', k' < k ∧ J k' a' w') Q) a w) {k₀ : Nat} (h₀ : J k₀ a w) : (Code.loop c).wp P Q a w := by
 intro b k cs
 have key : ∀ q a w, J q a w → ∃ e a' w', Q e a' w' ∧ Arrives P (lone (b.at a (.code c :: .inLoop c :: k)) cs w) b k cs e a' w' := by
  intro q
  induction q using Nat.strongRecOn with
  | _ q ih =>
   intro a w hI
   obtain ⟨e, a₁, w₁, hq, harr⟩ := round q a w hI b (.inLoop c :: k) cs
   cases e with
   | normal =>
    obtain ⟨q', hlt, hI₁⟩ := hq
    obtain ⟨e₂, a₂, w₂, hq₂, harr₂⟩ := ih q' hlt a₁ w₁ hI₁
    exact ⟨e₂, a₂, w₂, hq₂, .of_steps (Steps.trans harr (.one step_inLoop)) harr₂⟩
   | exit id => exact ⟨_, a₁, w₁, hq, .pass (x := .inLoop c) rfl (fun _ _ => .inl (by simp)) harr⟩
   | goto l => exact ⟨_, a₁, w₁, hq, .pass (x := .inLoop c) rfl (fun _ _ => .inl (by simp)) harr⟩
   | ret => exact ⟨_, a₁, w₁, hq, .pass (x := .inLoop c) rfl (fun _ _ => .inl (by simp)) harr⟩
   | panic ch => exact ⟨_, a₁, w₁, hq, .pass (x := .inLoop c) rfl (fun _ _ => .inl (by simp)) harr⟩
   | outgrown => exact ⟨_, a₁, w₁, hq, .pass (x := .inLoop c) rfl (fun _ _ => .inl (by simp)) harr⟩
 obtain ⟨e, a', w', hq, harr⟩ := key _ a w h₀
 exact ⟨e, a', w', hq, .of_steps (.one step_loop) harr⟩
end
end Go.Vc
namespace Go.Vc
open Go Go.RowKit
section
variable {P : Program} {n : Nat} {m0 w0 : World} {β κ : Nat → Nat} {f : Regs} {L : Lst} {m : World} {a : Act} {w : World}
def resV (tmps : Array Value) : ResultVar → Sem Value
 | .tmp t => pure (tmps.getD t undef)
 | .cell p ty => do loadVar ty (← asAddr (tmps.getD p undef))
theorem results_run {fn : Func} {vs : List Value} (h : (fn.results.toList.mapM (resV a.tmps)).run P w = .ok vs w) :
 (results fn a.tmps).run P w = .ok (wrapRes vs) w := by
 have hm : (fn.results.mapM (resV a.tmps)).run P w = .ok vs.toArray w := by
  rw [← Array.toArray_toList (xs := fn.results), List.mapM_toArray]
  simp only [Sem.run_map, h, Result.andThen_ok]
 have he : (results fn a.tmps).run P w = ((fn.results.mapM (resV a.tmps)).run P w).andThen
  fun vs w => .ok (if h : vs.size = 1 then vs[0] else .tuple vs) w := by
  unfold results
  rw [Sem.run_bind]
  rfl
 rw [he, hm]
 simp only [Result.andThen_ok]
 congr 1
 cases vs with
 | nil => rfl
 | cons v r => cases r with
  | nil => rfl
  | cons u r => simp [wrapRes]
end
end Go.Vc
namespace Go.Vc
open Go Go.RowKit
section
variable {P : Program} {n : Nat} {d : Option Nat} {K : K0} {f : Regs} {L : Lst} {m : World}
def plainV : Value → Bool
 | .int _ _ | .bool _ | .string _ => true
 | _ => false
theorem run_eqGuard {op : BinOp} {t : TypeId} {x y : Operand} {a b : Value} {s : Sem Value} (h : plainV a = true) (w : World) : (do eqGuard op t x y a b; s : Sem Value).run P w = s.run P w := by
 have : (eqGuard op t x y a b).run P w = .ok () w := by
  unfold eqGuard
  cases op <;> simp <;> cases a <;> simp_all [plainV]
 rw [Sem.run_bind, this]; rfl
theorem bytes_eq (a b : ByteArray) : (a.toList == b.toList) = decide (a = b) := by
 by_cases h : a = b
 ·simp [h]
 ·have : ¬ a.toList = b.toList := fun e => h (by
   rw [ByteArray.toList_eq, ByteArray.toList_eq] at e
   exact ByteArray.ext (Array.ext' e))
  simp [h, this]
end
end Go.Vc
namespace Go.Vc
open Go Go.RowKit
inductive FK where | int | str | bool
def fkOf (P : Program) (f : Field) : Option (Nat × FK) :=
 match P.underlying f.type with
 | some (.int _) => if f.name ≠ "_" ∧ P.plainKey f.type = true then some (f.offset, .int) else none
 | some .string => if f.name ≠ "_" ∧ P.plainKey f.type = true then some (f.offset, .str) else none
 | some .bool => if f.name ≠ "_" ∧ P.plainKey f.type = true then some (f.offset, .bool) else none
 | _ => none
def fksOf (P : Program) (t : TypeId) : Option (List (Nat × FK)) := (P.fieldsOf t).toList.mapM (fkOf P)
def eqFK (xs ys : List Value) : List (Nat × FK) → Option Bool
 | [] => some true
 | (o, k) :: r => match k, xs[o]?, ys[o]? with
  | .int, some (.int .i64 a), some (.int .i64 b) => if a = b then eqFK xs ys r else some false
  | .str, some (.string a), some (.string b) => if a = b then eqFK xs ys r else some false
  | .bool, some (.bool a), some (.bool b) => if a = b then eqFK xs ys r else some false
  | _, _, _ => none
theorem eqFields_run {P : Program} {w : World} (d : Nat) (xs ys : List Value) : ∀ (fs : List Field) {ks : List (Nat × FK)} {b : Bool}, fs.mapM (fkOf P) = some ks → eqFK xs ys ks = some b →
 (Op.eqFields (d + 1) xs.toArray ys.toArray fs).run P w = .ok b w
 | [], ks, b, h, hb => by
  simp at h; subst h
  simp only [eqFK, Option.some.injEq] at hb; subst hb; rfl
 | f :: fs, ks, b, h, hb => by
  simp only [List.mapM_cons, Option.bind_eq_bind, Option.bind_eq_some_iff, Option.pure_def, Option.some.injEq] at h
  obtain ⟨p, hp, r, hr, rfl⟩ := h
  have ih := fun b hb => eqFields_run (P := P) (w := w) d xs ys fs (b := b) hr hb
  unfold fkOf at hp
  have go : ∀ {a c : Value} {q : Bool} {o : Nat}, f.offset = o → f.name ≠ "_" → P.plainKey f.type = true → xs[o]? = some a → ys[o]? = some c → (Op.equalIn (d + 1) f.type a c).run P w = .ok q w →
   (if q = true then eqFK xs ys r else some false) = some b → (Op.eqFields (d + 1) xs.toArray ys.toArray (f :: fs)).run P w = .ok b w := by
   intro a c q o ho hn hpk ha hc hq hb
   subst ho
   simp only [Op.eqFields, if_pos hn, Sem.run_bind, run_part_plain w hpk (xs := xs.toArray) (off := f.offset) (v := a) (by simpa using ha), run_part_plain w hpk (xs := ys.toArray) (off := f.offset) (v := c) (by simpa using hc), Result.andThen_ok, hq]
   cases q with
   | true => simp only [Bool.not_true, Bool.false_eq_true, if_false]; exact ih b (by simpa using hb)
   | false => simp only [Bool.not_false, if_true, Sem.run_pure]; simp at hb; rw [hb]
  split at hp
  ·rename_i k hu
   split at hp
   ·rename_i hnp
    simp only [Option.some.injEq] at hp; subst hp
    simp only [eqFK] at hb
    split at hb
    ·rename_i a c e1 ha hc
     exact go rfl hnp.1 hnp.2 ha hc (run_equalIn_int w d f.type _ k a c hu) (by simpa using hb)
    ·rename_i e1 _ _; cases e1
    ·rename_i e1 _ _; cases e1
    ·cases hb
   ·cases hp
  ·rename_i hu
   split at hp
   ·rename_i hnp
    simp only [Option.some.injEq] at hp; subst hp
    simp only [eqFK] at hb
    split at hb
    ·rename_i e1 _ _; cases e1
    ·rename_i a c e1 ha hc
     exact go rfl hnp.1 hnp.2 ha hc (run_equalIn_string w d f.type a c hu) (by simpa [bytes_eq] using hb)
    ·rename_i e1 _ _; cases e1
    ·cases hb
   ·cases hp
  ·rename_i hu
   split at hp
   ·rename_i hnp
    simp only [Option.some.injEq] at hp; subst hp
    simp only [eqFK] at hb
    split at hb
    ·rename_i e1 _ _; cases e1
    ·rename_i e1 _ _; cases e1
    ·rename_i a c e1 ha hc
     exact go rfl hnp.1 hnp.2 ha hc (run_equalIn_bool' w d f.type a c hu) (by simpa using hb)
    ·cases hb
   ·cases hp
  ·cases hp
theorem equalIn_fk {P : Program} {t : TypeId} {ks : List (Nat × FK)} (h : fksOf P t = some ks) (ht : P.underlying t = some (.struct (P.fieldsOf t))) (hp : P.stoodInHeld t = false) {xs ys : List Value} {b : Bool} (hb : eqFK xs ys ks = some b) (w : World) :
 (Op.equalIn 10000 t (.agg xs.toArray) (.agg ys.toArray)).run P w = .ok b w := by
 rw [run_equalIn_struct w 9999 t _ _ ht hp]; exact eqFields_run 9998 xs ys _ h hb
end Go.Vc
namespace Go.Vc
open Go Go.RowKit
inductive D where
 | lit (v : Value)
 | sl (n : Nat) (ds : List D)
def okV : Value → Prop
 | .string s => s.size ≤ maxLen
 | .agg _ | .tuple _ => False
 | _ => True
mutual
def CellF (m : World) : D → Value → List Nat → Prop
 | .lit u, v, F => v = u ∧ F = [] ∧ okV u
 | .sl n ds, v, F => ∃ a cap, v = .slice a n cap ∧ n ≤ cap ∧ cap ≤ maxLen ∧ (a = none → cap = 0) ∧
  ((ds = [] ∧ F = []) ∨ (ds ≠ [] ∧ ∃ b o F', a = some ⟨b, o, none⟩ ∧ RowF m b o ds F' ∧ F = b :: F'))
def RowF (m : World) (b : Nat) : Nat → List D → List Nat → Prop
 | _, [], F => F = []
 | o, d :: ds, F => ∃ v F1 F2, m.cell? ⟨b, o, none⟩ = some v ∧ CellF m d v F1 ∧ RowF m b (o + 1) ds F2 ∧ F = F1 ++ F2
end
def ValsF (m : World) : List D → List Value → List Nat → Prop
 | [], [], F => F = []
 | d :: ds, v :: vs, F => ∃ F1 F2, CellF m d v F1 ∧ ValsF m ds vs F2 ∧ F = F1 ++ F2
 | _, _, _ => False
mutual
theorem CellF.mono {m m' : World} (h : ∀ b, vis m b → m'.heap[b]? = m.heap[b]?) : ∀ (d : D) {v : Value} {F : List Nat}, CellF m d v F → CellF m' d v F
 | .lit u, v, F, hc => hc
 | .sl n ds, v, F, hc => by
  obtain ⟨a, cap, h1, h2, h3, h4, hc⟩ := hc
  refine ⟨a, cap, h1, h2, h3, h4, hc.imp id ?_⟩
  rintro ⟨hne, b, o, F', h5, h6, h7⟩
  exact ⟨hne, b, o, F', h5, RowF.mono h b ds h6, h7⟩
theorem RowF.mono {m m' : World} (h : ∀ b, vis m b → m'.heap[b]? = m.heap[b]?) (b : Nat) : ∀ (ds : List D) {o : Nat} {F : List Nat}, RowF m b o ds F → RowF m' b o ds F
 | [], o, F, hc => hc
 | d :: ds, o, F, hc => by
  obtain ⟨v, F1, F2, h1, h2, h3, h4⟩ := hc
  have hv := h b (vis_of_cell h1)
  refine ⟨v, F1, F2, ?_, CellF.mono h d h2, RowF.mono h b ds h3, h4⟩
  rw [World.cell?_of_block (w := m) (w' := m') (a := ⟨b, o, none⟩) hv]; exact h1
end
theorem ValsF.mono {m m' : World} (h : ∀ b, vis m b → m'.heap[b]? = m.heap[b]?) : ∀ {ds : List D} {vs : List Value} {F : List Nat}, ValsF m ds vs F → ValsF m' ds vs F
 | [], [], _, hc => hc
 | d :: ds, v :: vs, F, hc => by
  obtain ⟨F1, F2, h1, h2, h3⟩ := hc
  exact ⟨F1, F2, CellF.mono h d h1, h2.mono h, h3⟩
 | [], _ :: _, _, hc => hc.elim
 | _ :: _, [], _, hc => hc.elim
theorem CellF.grow {m m' : World} (g : Grow m m') {d : D} {v : Value} {F : List Nat} (h : CellF m d v F) : CellF m' d v F := CellF.mono g.blocks d h
theorem ValsF.grow {m m' : World} (g : Grow m m') {ds : List D} {vs : List Value} {F : List Nat} (h : ValsF m ds vs F) : ValsF m' ds vs F := h.mono g.blocks
mutual
theorem CellF.vis {m : World} : ∀ (d : D) {v : Value} {F : List Nat}, CellF m d v F → ∀ b ∈ F, Go.Vc.vis m b
 | .lit u, v, F, hc, b, hb => by rw [hc.2.1] at hb; cases hb
 | .sl n ds, v, F, hc, b, hb => by
  obtain ⟨a, cap, _, _, _, _, ⟨_, hF⟩ | ⟨hne, b', o, F', _, h6, h7⟩⟩ := hc
  ·rw [hF] at hb; cases hb
  ·rw [h7] at hb
   rcases List.mem_cons.1 hb with rfl | hb
   ·cases ds with
    | nil => exact absurd rfl hne
    | cons d ds => obtain ⟨v, F1, F2, h1, _⟩ := h6; exact vis_of_cell h1
   ·exact RowF.vis b' ds h6 b hb
theorem RowF.vis {m : World} (b' : Nat) : ∀ (ds : List D) {o : Nat} {F : List Nat}, RowF m b' o ds F → ∀ b ∈ F, Go.Vc.vis m b
 | [], o, F, hc, b, hb => by have hc : F = [] := hc; rw [hc] at hb; cases hb
 | d :: ds, o, F, hc, b, hb => by
  obtain ⟨v, F1, F2, h1, h2, h3, h4⟩ := hc
  rw [h4] at hb
  rcases List.mem_append.1 hb with hb | hb
  ·exact CellF.vis d h2 b hb
  ·exact RowF.vis b' ds h3 b hb
end
theorem ValsF.vis {m : World} : ∀ {ds : List D} {vs : List Value} {F : List Nat}, ValsF m ds vs F → ∀ b ∈ F, Go.Vc.vis m b
 | [], [], F, hc, b, hb => by have hc : F = [] := hc; rw [hc] at hb; cases hb
 | d :: ds, v :: vs, F, hc, b, hb => by
  obtain ⟨F1, F2, h1, h2, h3⟩ := hc
  rw [h3] at hb
  rcases List.mem_append.1 hb with hb | hb
  ·exact CellF.vis d h1 b hb
  ·exact h2.vis b hb
 | [], _ :: _, _, hc, _, _ => hc.elim
 | _ :: _, [], _, hc, _, _ => hc.elim
theorem ValsF.length {m : World} : ∀ {ds : List D} {vs : List Value} {F : List Nat}, ValsF m ds vs F → vs.length = ds.length
 | [], [], _, _ => rfl
 | _ :: _, _ :: _, _, h => by obtain ⟨_, _, _, h, _⟩ := h; simp [h.length]
 | [], _ :: _, _, h => h.elim
 | _ :: _, [], _, h => h.elim
theorem RowF.vals {m : World} {b : Nat} : ∀ {ds : List D} {o : Nat} {F : List Nat}, RowF m b o ds F → ∃ vs, (∀ j v, vs[j]? = some v → m.cell? ⟨b, o + j, none⟩ = some v) ∧ ValsF m ds vs F
 | [], o, F, h => ⟨[], by simp, h⟩
 | d :: ds, o, F, h => by
  obtain ⟨v, F1, F2, h1, h2, h3, h4⟩ := h
  obtain ⟨vs, h5, h6⟩ := h3.vals
  refine ⟨v :: vs, fun j u hj => ?_, F1, F2, h2, h6, h4⟩
  cases j with
  | zero => simp at hj; subst hj; exact h1
  | succ j => have := h5 j u (by simpa using hj); rwa [show o + 1 + j = o + (j + 1) by omega] at this
theorem ValsF.row {m : World} {b : Nat} : ∀ {ds : List D} {vs : List Value} {o : Nat} {F : List Nat}, ValsF m ds vs F → (∀ j v, vs[j]? = some v → m.cell? ⟨b, o + j, none⟩ = some v) → RowF m b o ds F
 | [], [], o, F, h, _ => h
 | d :: ds, v :: vs, o, F, h, hc => by
  obtain ⟨F1, F2, h1, h2, h3⟩ := h
  exact ⟨v, F1, F2, by simpa using hc 0 v rfl, h1, h2.row (fun j u hj => by have := hc (j + 1) u (by simpa using hj); rwa [show o + 1 + j = o + (j + 1) by omega]), h3⟩
 | [], _ :: _, _, _, h, _ => h.elim
 | _ :: _, [], _, _, h, _ => h.elim
theorem ValsF.split {m : World} : ∀ {as bs : List D} {vs : List Value} {F : List Nat}, ValsF m (as ++ bs) vs F → ∃ va vb Fa Fb, vs = va ++ vb ∧ F = Fa ++ Fb ∧ ValsF m as va Fa ∧ ValsF m bs vb Fb
 | [], bs, vs, F, h => ⟨[], vs, [], F, rfl, rfl, rfl, h⟩
 | a :: as, bs, v :: vs, F, h => by
  obtain ⟨F1, F2, h1, h2, h3⟩ := h
  obtain ⟨va, vb, Fa, Fb, rfl, rfl, h4, h5⟩ := h2.split
  exact ⟨v :: va, vb, F1 ++ Fa, Fb, rfl, by rw [h3, List.append_assoc], ⟨F1, Fa, h1, h4, rfl⟩, h5⟩
 | _ :: _, _, [], _, h => h.elim
theorem ValsF.join {m : World} : ∀ {as bs : List D} {va vb : List Value} {Fa Fb : List Nat}, ValsF m as va Fa → ValsF m bs vb Fb → ValsF m (as ++ bs) (va ++ vb) (Fa ++ Fb)
 | [], bs, [], vb, Fa, Fb, h, k => by have h : Fa = [] := h; subst h; exact k
 | a :: as, bs, v :: va, vb, Fa, Fb, h, k => by
  obtain ⟨F1, F2, h1, h2, h3⟩ := h
  exact ⟨F1, F2 ++ Fb, h1, h2.join k, by rw [h3, List.append_assoc]⟩
 | [], _, _ :: _, _, _, _, h, _ => h.elim
 | _ :: _, _, [], _, _, _, h, _ => h.elim
theorem CellF.slice {m : World} {n : Nat} {ds : List D} {v : Value} {F : List Nat} (h : CellF m (.sl n ds) v F) : ∃ a cap, v = .slice a n cap ∧ n ≤ cap ∧ cap ≤ maxLen ∧ (a = none → cap = 0) := by
 obtain ⟨a, cap, h1, h2, h3, h4, _⟩ := h; exact ⟨a, cap, h1, h2, h3, h4⟩
theorem CellF.oneCell {m : World} {d : D} {v : Value} {F : List Nat} (h : CellF m d v F) : Go.Vc.oneCell v = true := by
 cases d with
 | lit u => obtain ⟨rfl, _, ho⟩ := h; cases v <;> first | rfl | exact ho.elim
 | sl n ds => obtain ⟨a, cap, rfl, _⟩ := h; rfl
theorem ValsF.oneCell {m : World} : ∀ {ds : List D} {vs : List Value} {F : List Nat}, ValsF m ds vs F → ∀ v ∈ vs, Go.Vc.oneCell v = true
 | [], [], _, _, v, hv => by cases hv
 | d :: ds, u :: vs, F, h, v, hv => by
  obtain ⟨F1, F2, h1, h2, h3⟩ := h
  rcases List.mem_cons.1 hv with rfl | hv
  ·exact h1.oneCell
  ·exact h2.oneCell v hv
 | [], _ :: _, _, h, _, _ => h.elim
 | _ :: _, [], _, h, _, _ => h.elim
theorem ValsF.single {m : World} {d : D} {v : Value} {F : List Nat} (h : CellF m d v F) : ValsF m [d] [v] F := ⟨F, [], h, rfl, by simp⟩
end Go.Vc
namespace Go.Vc
open Go Go.RowKit
structure Chg (F : List Nat) (m m' : World) : Prop where
 blocks : ∀ b, vis m b → b ∉ F → m'.heap[b]? = m.heap[b]?
 seen : ∀ b, vis m b → vis m' b
 os : m'.os = m.os
 tape : m'.tape = m.tape
 output : m'.output = m.output
theorem Grow.chg {m m' : World} (g : Grow m m') (F : List Nat) : Chg F m m' := ⟨fun b hb _ => g.blocks b hb, fun b hb => g.vis hb, g.os, g.tape, g.output⟩
theorem Chg.refl (F : List Nat) (m : World) : Chg F m m := (Grow.refl m).chg F
theorem Chg.trans {F : List Nat} {a b c : World} (h : Chg F a b) (k : Chg F b c) : Chg F a c :=
 ⟨fun i hi hn => (k.blocks i (h.seen i hi) hn).trans (h.blocks i hi hn), fun i hi => k.seen i (h.seen i hi), k.os.trans h.os, k.tape.trans h.tape, k.output.trans h.output⟩
theorem Chg.mono {F G : List Nat} {m m' : World} (h : Chg F m m') (hs : ∀ b ∈ F, b ∈ G) : Chg G m m' := ⟨fun b hb hn => h.blocks b hb fun hf => hn (hs b hf), h.seen, h.os, h.tape, h.output⟩
mutual
theorem CellF.monoF {m m' : World} : ∀ (d : D) {v : Value} {F : List Nat}, (∀ b ∈ F, m'.heap[b]? = m.heap[b]?) → CellF m d v F → CellF m' d v F
 | .lit u, v, F, _, hc => hc
 | .sl n ds, v, F, h, hc => by
  obtain ⟨a, cap, h1, h2, h3, h4, hc⟩ := hc
  refine ⟨a, cap, h1, h2, h3, h4, hc.imp id ?_⟩
  rintro ⟨hne, b, o, F', h5, h6, h7⟩
  exact ⟨hne, b, o, F', h5, RowF.monoF b ds (h b (by rw [h7]; simp)) (fun x hx => h x (by rw [h7]; simp [hx])) h6, h7⟩
theorem RowF.monoF {m m' : World} (b : Nat) : ∀ (ds : List D) {o : Nat} {F : List Nat}, m'.heap[b]? = m.heap[b]? → (∀ x ∈ F, m'.heap[x]? = m.heap[x]?) → RowF m b o ds F → RowF m' b o ds F
 | [], o, F, _, _, hc => hc
 | d :: ds, o, F, hb, h, hc => by
  obtain ⟨v, F1, F2, h1, h2, h3, h4⟩ := hc
  refine ⟨v, F1, F2, ?_, CellF.monoF d (fun x hx => h x (by rw [h4]; simp [hx])) h2, RowF.monoF b ds hb (fun x hx => h x (by rw [h4]; simp [hx])) h3, h4⟩
  rw [World.cell?_of_block (w := m) (w' := m') (a := ⟨b, o, none⟩) hb]; exact h1
end
theorem ValsF.monoF {m m' : World} : ∀ {ds : List D} {vs : List Value} {F : List Nat}, (∀ b ∈ F, m'.heap[b]? = m.heap[b]?) → ValsF m ds vs F → ValsF m' ds vs F
 | [], [], _, _, hc => hc
 | d :: ds, v :: vs, F, h, hc => by
  obtain ⟨F1, F2, h1, h2, h3⟩ := hc
  exact ⟨F1, F2, CellF.monoF d (fun x hx => h x (by rw [h3]; simp [hx])) h1, ValsF.monoF (fun x hx => h x (by rw [h3]; simp [hx])) h2, h3⟩
 | [], _ :: _, _, _, hc => hc.elim
 | _ :: _, [], _, _, hc => hc.elim
theorem ValsF.chg {m m' : World} {F G : List Nat} (c : Chg F m m') (hd : ∀ b ∈ G, b ∉ F) {ds : List D} {vs : List Value} (h : ValsF m ds vs G) : ValsF m' ds vs G :=
 h.monoF fun b hb => c.blocks b (h.vis b hb) (hd b hb)
theorem CellF.chg {m m' : World} {F G : List Nat} (c : Chg F m m') (hd : ∀ b ∈ G, b ∉ F) {d : D} {v : Value} (h : CellF m d v G) : CellF m' d v G :=
 CellF.monoF d (fun b hb => c.blocks b (CellF.vis d h b hb) (hd b hb)) h
theorem Chg.store {m : World} {b o : Nat} {v : Value} : Chg [b] m (m.setCell ⟨b, o, none⟩ v) := by
 refine ⟨fun x hx hn => Go.heap_setCell_other m _ x v (by simp at hn; simpa using hn), fun x hx => ?_, rfl, rfl, rfl⟩
 obtain ⟨ob, ho, hne⟩ := hx
 by_cases hxb : x = b
 ·subst hxb
  simp only [vis, World.setCell, Array.getElem?_modify, if_true, ho, Option.map_some]
  cases ob with
  | cells c e fr => exact ⟨_, rfl, by simp [hid]⟩
  | _ => exact ⟨_, rfl, hne⟩
 ·exact ⟨ob, (Go.heap_setCell_other m _ x v (by simpa using hxb)).trans ho, hne⟩
end Go.Vc
namespace Go.Vc
open Go Go.RowKit
def Cells (m : World) (b o : Nat) (vs : List Value) : Prop := ∀ j v, vs[j]? = some v → m.cell? ⟨b, o + j, none⟩ = some v
theorem Cells.mono {m m' : World} {b o : Nat} {vs : List Value} (hb : m'.heap[b]? = m.heap[b]?) (h : Cells m b o vs) : Cells m' b o vs := fun j v hj => by
 rw [World.cell?_of_block (w := m) (w' := m') (a := ⟨b, o + j, none⟩) hb]; exact h j v hj
theorem Cells.chg {m m' : World} {b o : Nat} {vs : List Value} {F : List Nat} (c : Chg F m m') (hb : b ∉ F) (h : Cells m b o vs) : Cells m' b o vs := fun j v hj =>
 Cells.mono (c.blocks b (vis_of_cell (h j v hj)) hb) h j v hj
theorem Cells.grow {m m' : World} {b o : Nat} {vs : List Value} (g : Grow m m') (h : Cells m b o vs) : Cells m' b o vs := h.chg (g.chg []) (by simp)
theorem Cells.store {m : World} {b o j : Nat} {vs : List Value} {v : Value} (h : Cells m b o vs) (hj : j < vs.length) : Cells (m.setCell ⟨b, o + j, none⟩ v) b o (vs.set j v) := fun i u hi => by
 rw [List.getElem?_set] at hi
 by_cases hij : j = i
 ·subst hij
  simp only [hj, if_true, Option.some.injEq] at hi
  subst hi
  obtain ⟨w, hw⟩ : ∃ w, vs[j]? = some w := ⟨_, List.getElem?_eq_getElem hj⟩
  have hc := h j w hw
  unfold World.cell? at hc ⊢
  simp only [World.setCell, Array.getElem?_modify, if_true]
  split at hc
  ·rename_i c t fr e
   simp only [e, Option.map_some]
   simp only [Option.isSome_none, Bool.false_eq_true, if_false] at hc ⊢
   have := (Array.getElem?_eq_some_iff.1 hc).1
   simp [Array.getElem?_setIfInBounds, this]
  ·cases hc
 ·simp only [hij, if_false] at hi
  rw [World.cell?_setCell_other _ _ _ _ (by intro e; injection e with _ e _; omega)]
  exact h i u hi
theorem Cells.store_at {m : World} {b o i j : Nat} {va ve vb : List Value} {v : Value} (h : Cells m b o (va ++ (ve ++ vb))) (hi : va.length = i) (hj : j < ve.length) :
 Cells (m.setCell ⟨b, o + i + j, none⟩ v) b o (va ++ (ve.set j v ++ vb)) := by
 have := h.store (v := v) (j := i + j) (by simp; omega)
 rw [← Nat.add_assoc] at this
 have e : (va ++ (ve ++ vb)).set (i + j) v = va ++ (ve.set j v ++ vb) := by
  rw [List.set_append_right _ _ (by omega), hi, Nat.add_sub_cancel_left, List.set_append_left _ _ hj]
 rw [e] at this; exact this
end Go.Vc
namespace Go.Vc
open Go Go.RowKit
section
variable {H : Type} {enc : TypeId × Value → H} {P : Program} {W : World} {base : Nat} {sp : Nat → Bool} {held : Bool}
theorem list_one {α : Type} {l : List α} (h : l.length = 1) : ∃ a, l = [a] := by
 match l, h with
 | [a], _ => exact ⟨a, rfl⟩
theorem list_cons {α : Type} {l : List α} {n : Nat} (h : l.length = n + 1) : ∃ a r, l = a :: r ∧ r.length = n := by
 match l, h with
 | a :: r, h => exact ⟨a, r, rfl, by simpa using h⟩
theorem gather {α : Type} {row : α → List D} {sz : Nat} {a : Addr} : ∀ (len : Nat),
 (∀ i, i < len → ∃ (y : α) (F : List Nat) (cs : List Value), cs.length = sz ∧ (∀ j, j < sz → W.cell? ((a.add (i * sz)).add j) = cs[j]?) ∧ ValsF W (row y) cs F) →
 ∃ (ys : List α) (vs : List Value) (F : List Nat), ys.length = len ∧ vs.length = len * sz ∧ ValsF W (ys.flatMap row) vs F ∧ ∀ j v, vs[j]? = some v → W.cell? (a.add j) = some v
 | 0, _ => ⟨[], [], [], rfl, by simp, rfl, by simp⟩
 | len + 1, h => by
  obtain ⟨ys, vs, F, h1, h2, h3, h4⟩ := gather len fun i hi => h i (Nat.lt_succ_of_lt hi)
  obtain ⟨y, F', cs, h5, h6, h7⟩ := h len (Nat.lt_succ_self _)
  refine ⟨ys ++ [y], vs ++ cs, F ++ F', by simp [h1], by simp [h2, h5, Nat.add_mul], ?_, fun j v hj => ?_⟩
  ·rw [List.flatMap_append]; refine h3.join ?_; simpa using h7
  ·by_cases hlt : j < vs.length
   ·rw [List.getElem?_append_left hlt] at hj; exact h4 j v hj
   ·rw [List.getElem?_append_right (by omega)] at hj
    have hlt2 := (List.getElem?_eq_some_iff.1 hj).1
    have := h6 (j - vs.length) (by omega)
    rw [hj] at this
    rw [← this]
    congr 1
    simp only [Addr.add]
    have e1 : j = len * sz + (j - vs.length) := by omega
    by_cases z1 : len * sz = 0
    ·by_cases z2 : j - vs.length = 0
     ·have : j = 0 := by omega
      simp [z1, z2, this]
     ·have e2 : j = j - vs.length := by omega
      simp only [z1, if_true, z2, if_false]
      rw [← e2]
      have : ¬ j = 0 := by omega
      simp [this]
    ·by_cases z2 : j - vs.length = 0
     ·have : ¬ j = 0 := by omega
      simp only [z1, if_false, z2, if_true, this]
      congr 1; omega
     ·have : ¬ j = 0 := by omega
      simp only [z1, if_false, z2, this]
      congr 1; omega
theorem read_slice {α : Type} {row : α → List D} {sz : Nat} {T e : TypeId} {cs : List Value} {x : DataW H × List MemPlace} {fuel : Nat} (hT : P.underlying T = some (.slice e)) (hsz : P.cellsOf e = sz) (h0 : 0 < sz)
 (hrow : ∀ y, (row y).length = sz)
 (hel : ∀ n cs x, n < fuel → DataW.trod enc P W base sp held n e cs = some x → ∃ y F, ValsF W (row y) cs F) (h : DataW.trod enc P W base sp held fuel T cs = some x) :
 ∃ (ys : List α) (v : Value) (F : List Nat), cs = [v] ∧ CellF W (.sl ys.length (ys.flatMap row)) v F := by
 rcases DataW.trod_slice hT h with ⟨rfl, _⟩ | ⟨a, len, cap, elems, rest, n, hfu, rfl, _, hb, hl, hc, hlen, hget, _⟩
 ·exact ⟨[], _, [], rfl, none, 0, rfl, Nat.le_refl _, by simp [maxLen], fun _ => rfl, .inl ⟨rfl, rfl⟩⟩
 ·have each : ∀ i, i < len → ∃ (y : α) (F : List Nat) (cs : List Value), cs.length = sz ∧ (∀ j, j < sz → W.cell? ((a.add (i * sz)).add j) = cs[j]?) ∧ ValsF W (row y) cs F := fun i hi => by
   have hg := hget i hi
   rw [List.getElem?_eq_getElem (by omega), hsz] at hg
   obtain ⟨cs', hcs, htr⟩ := Option.bind_eq_some_iff.1 hg
   obtain ⟨_, hcl, hcell⟩ := World.cells?_some hcs
   obtain ⟨y, F, hy⟩ := hel _ _ _ (by omega) htr
   exact ⟨y, F, cs', hcl, hcell, hy⟩
  obtain ⟨ys, vs, F, h1, h2, h3, h4⟩ := gather len each
  by_cases hz : len = 0
  ·subst hz
   have : ys = [] := List.eq_nil_of_length_eq_zero h1
   subst this
   exact ⟨[], _, [], rfl, some a, cap, rfl, by simp, hc, by simp, .inl ⟨rfl, rfl⟩⟩
  ·have hpos : 0 < len * sz := Nat.mul_pos (Nat.pos_of_ne_zero hz) h0
   obtain ⟨v0, r, hvs, _⟩ := list_cons (l := vs) (n := len * sz - 1) (by omega)
   have hc0 := h4 0 v0 (by rw [hvs]; rfl)
   have hspot : a.spot = none := by
    have : a.add 0 = a := by simp [Addr.add]
    rw [this] at hc0
    unfold World.cell? at hc0
    split at hc0
    ·split at hc0
     ·cases hc0
     ·rename_i hs; simpa using hs
    ·cases hc0
   have ha : a = ⟨a.block, a.off, none⟩ := by cases a; simp at hspot; simp [hspot]
   refine ⟨ys, _, a.block :: F, rfl, some a, cap, by rw [h1], by omega, hc, by simp, .inr ⟨?_, a.block, a.off, F, by rw [← ha], h3.row fun j v hj => ?_, rfl⟩⟩
   ·intro e
    have h3l : vs.length = 0 := by rw [h3.length, e]; rfl
    omega
   ·have := h4 j v hj
    rw [ha, add_lit0] at this
    exact this
end
end Go.Vc
namespace Go.Vc
open Go Go.RowKit
section
variable {P : Program} {n : Nat} {d : Option Nat} {K : K0} {f : Regs} {L : Lst} {m : World}
def shrI (k : IntKind) (a b : Int) : Int := a.fdiv (2 ^ min b.toNat k.bits)
def xorI (k : IntKind) (a b : Int) : Int := k.wrap (BitVec.ofInt k.bits a ^^^ BitVec.ofInt k.bits b).toNat
def andI (k : IntKind) (a b : Int) : Int := k.wrap (BitVec.ofInt k.bits a &&& BitVec.ofInt k.bits b).toNat
end
end Go.Vc
