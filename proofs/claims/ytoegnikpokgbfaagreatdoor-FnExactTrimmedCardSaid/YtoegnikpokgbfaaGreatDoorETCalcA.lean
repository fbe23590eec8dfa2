/-
  A calculus over data trees: its states, and that its steps are sound, first half.
  Conditions: none.
-/
import Derived.Test.YtoegnikpokgbfaaGreatDoorETWalkB
import Derived.Lib.ItoaNum
import Derived.Lib.AppendStr
import Derived.Lib.ConvBytes
import Derived.Laws.Slices
set_option linter.unusedVariables false
set_option linter.unusedSimpArgs false
set_option linter.unusedSectionVars false
namespace Go.Dv
open Go Go.RowKit
def libVars : List (Nat × (Array Value → Prop)) :=
 [(1, fun cs => cs = (Lib.pow10Tab.map fun z => Value.int .u64 z).toArray), (0, fun cs => ∃ m, cs[0]? = some (.int .i64 m)), (6, fun cs => ∃ v, cs[0]? = some v ∧ (v = .nilIface ∨ ∃ t p, v = .iface t p)), (7, fun cs => ∃ v, cs[0]? = some v ∧ (v = .nilIface ∨ ∃ t p, v = .iface t p))]
class Out where
 vars : List (Nat × (Array Value → Prop))
 code : Value
instance (priority := low) noOut : Out := ⟨[], .slice none 0 0⟩
def GlW [Out] (w : World) (own : Nat → Prop) : Prop := ∀ t ∈ libVars ++ Out.vars, ¬ own t.1 ∧ ∃ cs ty lh, w.heap[t.1]? = some (.cells cs ty lh) ∧ t.2 cs
theorem GlW.mono [Out] {w w' : World} {own own' : Nat → Prop} (h : GlW w own) (hk : ∀ b, b < w.heap.size → ¬ own b → w'.heap[b]? = w.heap[b]?) (ho : ∀ b, own' b → b < w.heap.size → own b) : GlW w' own' := fun t ht => by
 obtain ⟨h1, cs, ty, lh, h2, h3⟩ := h t ht
 have hlt : t.1 < w.heap.size := (Array.getElem?_eq_some_iff.1 h2).1
 exact ⟨fun e => h1 (ho _ e hlt), cs, ty, lh, (hk _ hlt h1).trans h2, h3⟩
def Wd (w w' : World) : Prop := w.heap.size ≤ w'.heap.size
theorem Wd.refl (w : World) : Wd w w := Nat.le_refl _
theorem Wd.trans {a b c : World} (h : Wd a b) (k : Wd b c) : Wd a c := Nat.le_trans h k
theorem Wd.alloc (w : World) (cs : Array Value) (t : TypeId) : Wd w (w.alloc (.cells cs t)) := by simp [Wd]
theorem Wd.setRow (w : World) (g : Nat) (cs : Array Value) : Wd w (w.setRow g cs) := by simp [Wd]
def Lh (n : Nat) (lh : Nat × Nat) : Prop := ∀ j, j < n → ¬ (lh.1 ≤ j ∧ j < lh.2)
theorem Lh.zero (n : Nat) : Lh n (0, 0) := fun j _ h => absurd h.2 (Nat.not_lt_zero _)
theorem Lh.of_le {n : Nat} {lh : Nat × Nat} (h : n ≤ lh.1) : Lh n lh := fun j hj k => by omega
theorem run_storeCells_lh (P : Program) (g o : Nat) (t : TypeId) (fz : Nat × Nat) : ∀ (vs : List Value) (i : Nat) (cur : Array Value) (w : World), w.heap[g]? = some (.cells cur t fz) → Lh cur.size fz → o + i + vs.length ≤ cur.size → (∀ v ∈ vs, v.oneCell' = true) →
 (storeCells ⟨g, o, none⟩ vs i).run P w = .ok () (w.setRow g (cur.toList.take (o + i) ++ vs ++ cur.toList.drop (o + i + vs.length)).toArray)
 | [], i, cur, w, hg, _, _, _ => by
  simp only [storeCells, List.append_nil, List.length_nil, Nat.add_zero, List.take_append_drop, Array.toArray_toList]
  rw [setRow_self w g cur t fz hg]
  rfl
 | v :: rest, i, cur, w, hg, hfz, hl, h1 => by
  have hi : o + i < cur.size := by simp at hl; omega
  have hadd : (⟨g, o, none⟩ : Addr).add i = ⟨g, o + i, none⟩ := by unfold Addr.add; split <;> simp_all
  have hcell : w.cell? ⟨g, o + i, none⟩ = some cur[o + i] := by simp [World.cell?, hg, hi]
  have hfro : w.frozen? ⟨g, o + i, none⟩ = false := by
   obtain ⟨lo, hi'⟩ := fz
   have := hfz (o + i) hi
   simp only [World.frozen?, hg, Bool.and_eq_false_iff, decide_eq_false_iff_not]
   simp only at this
   omega
  have hst : (store ((⟨g, o, none⟩ : Addr).add i) v).run P w = .ok () (w.setRow g (cur.setIfInBounds (o + i) v)) := by
   rw [hadd, run_store P w _ v _ (h1 v (by simp)), hcell]
   simp [hfro, setCell_eq_setRow w g (o + i) cur t fz v hg]
  have ih := run_storeCells_lh P g o t fz rest (i + 1) (cur.setIfInBounds (o + i) v) (w.setRow g (cur.setIfInBounds (o + i) v)) (setRow_heap w g cur _ t _ hg) (by simpa using hfz) (by simp at hl ⊢; omega) (fun x hx => h1 x (by simp [hx]))
  simp only [storeCells, Sem.run_bind, hst, Result.andThen_ok, ih, setRow_setRow]
  congr 3
  have e := list_seg_step cur.toList (o + i) v rest (by simp at hl ⊢; omega)
  simpa [Array.toList_setIfInBounds, Nat.add_assoc] using e
section
variable {P : Program} (w : World)
theorem run_append_room_lh (t u ty e : TypeId) (d : TypeDesc) (i : TypeInfo) (ht : P.underlying t = some (.slice e)) (hu : P.underlying u = some d) (hd : ∀ k, d ≠ .int k) (hi : P.info? e = some i)
 (g sLen sCap : Nat) (cur : Array Value) (fz : Nat × Nat) (hg : w.heap[g]? = some (.cells cur e fz)) (hfz : Lh cur.size fz)
 (tv : Value) (q : Nat) (news : List Value) (hq : (Builtin.lenOf tv).run P w = .ok q w) (hf : (Builtin.firstCells i.size q tv).run P w = .ok news.toArray w) (h1 : ∀ u ∈ news, u.oneCell' = true)
 (hroom : sLen + q ≤ sCap) (hfit : sLen * i.size + news.length ≤ cur.size) :
 (Builtin.append_ #[t, u] ty #[.slice (some ⟨g, 0, none⟩) sLen sCap, tv]).run P w =
  .ok (.slice (some ⟨g, 0, none⟩) (sLen + q) sCap) (w.setRow g (cur.toList.take (sLen * i.size) ++ news ++ cur.toList.drop (sLen * i.size + news.length)).toArray) := by
 have hst := run_storeCells_lh P g (sLen * i.size) e fz news 0 cur w hg hfz (by simpa using hfit) h1
 simp only [Nat.add_zero] at hst
 have hd' : (match d with | .int _ => true | _ => false) = false := by cases d <;> first | rfl | exact absurd rfl (hd _)
 simp [Builtin.append_, run_underlying ht, run_underlying hu, hd', sizeOf, typeInfo, hi, hq, hroom, hf, Addr.add_lit, hst]
theorem run_append_grow_u (t u ty e : TypeId) (d : TypeDesc) (i : TypeInfo) (z : Value) (ht : P.underlying t = some (.slice e)) (hu : P.underlying u = some d) (hd : ∀ k, d ≠ .int k) (hi : P.info? e = some i) (hz : i.zero = some z)
 (base : Option Addr) (sLen sCap : Nat) (olds : List Value) (hfo : (Builtin.firstCells i.size sLen (.slice base sLen sCap)).run P w.drew = .ok olds.toArray w.drew)
 (tv : Value) (q : Nat) (news : List Value) (hq : (Builtin.lenOf tv).run P w = .ok q w) (hf : (Builtin.firstCells i.size q tv).run P w.drew = .ok news.toArray w.drew)
 (hg : sCap < sLen + q) (h63 : ((sLen + q : Nat) : Int) ≤ 9223372036854775807) (hfit : Builtin.nextslicecap (sLen + q) sCap * i.bytes ≤ 281474976710656) :
 (Builtin.append_ #[t, u] ty #[.slice base sLen sCap, tv]).run P w =
  .ok (.slice (some ⟨w.heap.size, 0, none⟩) (sLen + q) (grownCap w (sLen + q) sCap e))
   (w.drew.alloc (.cells (olds.toArray ++ news.toArray ++ Builtin.zeroCells z.cells (grownCap w (sLen + q) sCap e - (sLen + q))) e)) := by
 have hn : ¬ (sLen + q ≤ sCap) := by omega
 have h63' : ¬ (9223372036854775807 < ((sLen : Int) + (q : Int))) := by omega
 have h48' : ¬ (281474976710656 < Builtin.nextslicecap (sLen + q) sCap * i.bytes) := by omega
 have hd' : (match d with | .int _ => true | _ => false) = false := by cases d <;> first | rfl | exact absurd rfl (hd _)
 simp [Builtin.append_, run_underlying ht, run_underlying hu, hd', sizeOf, typeInfo, zeroValue, hi, hz, hq, hn, h63', h48', Question.forced, hf, hfo, newRow, grownCap]
 congr 2
 apply Array.ext'
 simp [List.append_assoc]
end
end Go.Dv
namespace Go.Dv
open Go Go.RowKit Go.Vc
abbrev Fp := Option (List (List Nat))
inductive C where
 | v (x : Value)
 | sl (n : Nat) (ds : List D) (F : Fp)
 | p (i off : Nat)
 | s (i n : Nat)
 | q (ds : List D)
 | fn (g : FuncId) (first caps : List Nat)
 | ow (ty : TypeId) (n : Nat) (ds : List D) (F : Fp)
 | dead
 | self
inductive S where
 | c (x : C)
 | ag (cs : List C)
 | tu (xs : List (List C × Bool))
inductive O where
 | str (cs : List C)
 | arr (ty : TypeId) (n : Nat) (ds : List D) (F : Fp)
abbrev Rg := Nat → S
abbrev Ob := List (Nat × O)
abbrev Po := Fp
abbrev K0 := Rg → Ob → Po → Prop
abbrev KE := Exit → K0
def look : Ob → Nat → Option O
 | [], _ => none
 | (j, b) :: r, i => if j = i then some b else look r i
def rem : Ob → Nat → Ob
 | [], _ => []
 | (j, b) :: r, i => if j = i then rem r i else (j, b) :: rem r i
def setL (L : Ob) (i : Nat) (b : O) : Ob := (i, b) :: rem L i
def fam (i : Nat) : Nat := i % 10000
def hit (ds is : List Nat) (i : Nat) : Bool := inN ds (fam i) || inN is i
def hitL (ds is : List Nat) : List Nat → Bool
 | [] => false
 | i :: r => hit ds is i || hitL ds is r
def kC (ds is : List Nat) : C → C
 | .p i o => if hit ds is i = true then .dead else .p i o
 | .s i n => if hit ds is i = true then .dead else .s i n
 | .fn g a b => if hitL ds is a = true then .dead else if hitL ds is b = true then .dead else .fn g a b
 | x => x
def kCs (ds is : List Nat) : List C → List C
 | [] => []
 | x :: r => kC ds is x :: kCs ds is r
def kTs (ds is : List Nat) : List (List C × Bool) → List (List C × Bool)
 | [] => []
 | (cs, b) :: r => (kCs ds is cs, b) :: kTs ds is r
def kS (ds is : List Nat) : S → S
 | .c x => .c (kC ds is x)
 | .ag cs => .ag (kCs ds is cs)
 | .tu xs => .tu (kTs ds is xs)
def kO (ds is : List Nat) : O → O
 | .str cs => .str (kCs ds is cs)
 | .arr t n vs F => .arr t n vs F
def kL (ds is : List Nat) : Ob → Ob
 | [] => []
 | (j, b) :: r => if hit ds is j = true then kL ds is r else (j, kO ds is b) :: kL ds is r
def kR (ds is : List Nat) (f : Rg) : Rg := fun s => kS ds is (f s)
def upd (f : Rg) (d : Nat) (v : S) : Rg := fun s => if s = d then v else f s
def put (n : Nat) (f : Rg) (d : Option Nat) (v : S) : Rg :=
 match d with
 | some d => if d < n then upd f d v else f
 | none => f
def cvS : Value → S
 | .agg xs => .ag (xs.toList.map .v)
 | v => .c (.v v)
def ev (f : Rg) : Operand → S
 | .tmp t => f t
 | .const v => cvS v
 | .global g => .c (.v (.pointer (some ⟨g, 0, none⟩)))
 | .func g => .c (.fn g [] [])
def Sb (G H : List Nat) : Prop := ∀ x, G.count x ≤ H.count x
theorem Sb.refl (G : List Nat) : Sb G G := fun _ => Nat.le_refl _
theorem Sb.nil (G : List Nat) : Sb [] G := fun x => by simp
theorem Sb.append {a b c d : List Nat} (h : Sb a b) (k : Sb c d) : Sb (a ++ c) (b ++ d) := fun x => by
 have := h x; have := k x; simp only [List.count_append]; omega
mutual
def Wh (w : World) : D → Value → Prop
 | .lit _, _ => True
 | .sl n ds, v => ∃ a cap, v = .slice a n cap ∧ (n = 0 → cap = 0) ∧
  (ds = [] ∨ ∃ b cs ty lh sz, a = some ⟨b, 0, none⟩ ∧ w.heap[b]? = some (.cells cs ty lh) ∧ ds.length = n * sz ∧ cap * sz ≤ cs.size ∧ WhR w b 0 ds)
def WhR (w : World) (b : Nat) : Nat → List D → Prop
 | _, [] => True
 | o, d :: ds => (∃ v, w.cell? ⟨b, o, none⟩ = some v ∧ Wh w d v) ∧ WhR w b (o + 1) ds
end
def WhL (w : World) : List D → List Value → Prop
 | [], [] => True
 | d :: ds, v :: vs => Wh w d v ∧ WhL w ds vs
 | _, _ => False
def TlC (w : World) (d : D) (y : Value) (G : List Nat) (F : Fp) : Prop := ∀ Fs, F = some Fs → Sb G Fs.flatten ∧ Wh w d y
def TlL (w : World) (ds : List D) (vs : List Value) (G : List Nat) (F : Fp) : Prop := ∀ Fs, F = some Fs → Sb G Fs.flatten ∧ WhL w ds vs
section
variable (P : Program) (w : World) (β : Nat → Option Nat) (ok : Nat → Prop)
def OwnS (b : Option Nat) (n : Nat) (y : Value) : Prop :=
 match b with
 | some b => ∃ cap cs ty lh, y = .slice (some ⟨b, 0, none⟩) n cap ∧ n ≤ cap ∧ cap ≤ maxLen ∧ w.heap[b]? = some (.cells cs ty lh) ∧
  ∀ sz, (P.info? ty).map (·.size) = some sz → cap * sz ≤ cs.size
 | none => n = 0 ∧ y = .slice none 0 0
def Ptrs : List Nat → List Value → Prop
 | [], [] => True
 | i :: r, y :: t => (∃ b, β i = some b ∧ y = .pointer (some ⟨b, 0, none⟩)) ∧ Ptrs r t
 | _, _ => False
def RelC : C → Value → Prop
 | .v x, y => y = x ∧ okV x
 | .sl n ds F, y => ∃ G, CellF w (.sl n ds) y G ∧ (∀ b ∈ G, ok b) ∧ TlC w (.sl n ds) y G F
 | .p i off, y => ∃ b, β i = some b ∧ y = .pointer (some ⟨b, off, none⟩)
 | .s i n, y => OwnS P w (β i) n y
 | .q ds, y => ∃ b o G, y = .pointer (some ⟨b, o, none⟩) ∧ RowF w b o ds G ∧ vis w b ∧ ok b ∧ ∀ x ∈ G, ok x
 | .fn g fs cs, y => ∃ a b : List Value, y = .func (.func g) a.toArray b.toArray ∧ Ptrs β fs a ∧ Ptrs β cs b
 | .ow .., _ => False
 | .dead, _ => True
 | .self, y => y = .pointer none ∨ ∃ b, y = .pointer (some ⟨b, 0, none⟩)
def RelL : List C → List Value → Prop
 | [], [] => True
 | x :: r, y :: t => RelC P w β ok x y ∧ RelL r t
 | _, _ => False
def RelT1 (x : List C × Bool) (y : Value) : Prop :=
 if x.2 = true then RelL P w β ok x.1 [y] else ∃ vs : List Value, y = .agg vs.toArray ∧ RelL P w β ok x.1 vs
def RelT : List (List C × Bool) → List Value → Prop
 | [], [] => True
 | x :: r, y :: t => RelT1 P w β ok x y ∧ RelT r t
 | _, _ => False
def RelS : S → Value → Prop
 | .c x, y => RelC P w β ok x y
 | .ag cs, y => ∃ vs : List Value, y = .agg vs.toArray ∧ RelL P w β ok cs vs
 | .tu xs, y => ∃ ys : List Value, y = .tuple ys.toArray ∧ RelT P w β ok xs ys
def SelfOk (b : Nat) (ty : TypeId) (cs : List C) (vs : List Value) : Prop := ∀ k : Nat, cs[k]? = some C.self → ty = 246 ∧ (vs[k]? = some (Value.pointer none) ∨ vs[k]? = some (Value.pointer (some ⟨b, 0, none⟩)))
def RelO (i : Nat) : O → Prop
 | .str cs => ∃ b vs ty lh, β i = some b ∧ w.heap[b]? = some (.cells vs ty lh) ∧ Lh vs.size lh ∧ SelfOk b ty cs vs.toList ∧ RelL P w β ok cs vs.toList
 | .arr ty n ds F => (β i = none ∧ n = 0 ∧ ds = []) ∨
  ∃ b vs hd junk G lh, β i = some b ∧ w.heap[b]? = some (.cells vs ty lh) ∧ Lh vs.size lh ∧ vs.toList = hd ++ junk ∧ ValsF w ds hd G ∧ (∀ x ∈ G, ok x) ∧ (TlL w ds hd G F ∧ (F ≠ none → (n = 0 → vs.size = 0) ∧ ∃ i, P.info? ty = some i ∧ 0 < i.size)) ∧
   (∀ sz, (P.info? ty).map (·.size) = some sz → ds.length = n * sz)
end
def ownB (L : Ob) (β : Nat → Option Nat) (b : Nat) : Prop := ∃ i o, look L i = some o ∧ β i = some b
def okB (w0 : World) (ok0 : Nat → Prop) (L : Ob) (β : Nat → Option Nat) (b : Nat) : Prop := ¬ ownB L β b ∧ (b < w0.heap.size → ok0 b)
def cellsOf? : S → Option (List C)
 | .c .dead => none
 | .c x => some [x]
 | .ag cs => some cs
 | .tu _ => none
def mkS (t : TS) (cs : List C) : Option S :=
 match t with
 | .one => (match cs with | [c] => some (.c c) | _ => none)
 | .agg k => if cs.length = k then some (.ag cs) else none
 | .bad => none
def fillC (places : List (Nat × Nat)) (cs : List C) : List (Nat × S) → Option (List C)
 | [] => some cs
 | (i, s) :: r => match places[i]?, cellsOf? s with
  | some (off, size), some ys => if ys.length = size ∧ off + size ≤ cs.length then fillC places (splice cs off ys) r else none
  | _, _ => none
def joinF : Fp → Fp → Fp
 | some a, some b => some (a ++ b)
 | _, _ => none
def dOf : C → Option (D × Fp)
 | .v (.slice none 0 0) => some (.sl 0 [], some [])
 | .v (.slice _ _ _) => none
 | .v x => some (.lit x, some [])
 | .sl n ds F => some (.sl n ds, F)
 | _ => none
def dsOf : List C → Option (List D × Fp)
 | [] => some ([], some [])
 | x :: r => match dOf x, dsOf r with
  | some (d, F), some (ds, G) => some (d :: ds, joinF F G)
  | _, _ => none
def cOf : D → C
 | .lit v => .v v
 | .sl n ds => .sl n ds none
def csOf : List D → List C
 | [] => []
 | d :: r => cOf d :: csOf r
def tell (p : Po) (F : Fp) : Fp := match p with | some _ => F | none => none
def fC (i n : Nat) (x : C) : C → C
 | .p j o => if j = i then .dead else .p j o
 | .s j m => if j = i then (if m = n then x else .dead) else .s j m
 | .fn g a b => if inN a i = true then .dead else if inN b i = true then .dead else .fn g a b
 | y => y
def fCs (i n : Nat) (x : C) : List C → List C
 | [] => []
 | y :: r => fC i n x y :: fCs i n x r
def fTs (i n : Nat) (x : C) : List (List C × Bool) → List (List C × Bool)
 | [] => []
 | (cs, b) :: r => (fCs i n x cs, b) :: fTs i n x r
def fS (i n : Nat) (x : C) : S → S
 | .c y => .c (fC i n x y)
 | .ag cs => .ag (fCs i n x cs)
 | .tu xs => .tu (fTs i n x xs)
def fO (i n : Nat) (x : C) : O → O
 | .str cs => .str (fCs i n x cs)
 | .arr t m vs F => .arr t m vs F
def fL (i n : Nat) (x : C) : Ob → Ob
 | [] => []
 | (j, b) :: r => if j = i then fL i n x r else (j, fO i n x b) :: fL i n x r
def fR (i n : Nat) (x : C) (f : Rg) : Rg := fun s => fS i n x (f s)
def frz (i : Nat) (k : Nat → C → K0) : K0 := fun f L p =>
 match look L i with
 | some (.arr _ n ds F) => (match p, F with
  | some ps, some Fs => ∀ G : List Nat, k n (.sl n ds (some (G :: Fs))) (fR i n (.sl n ds (some (G :: Fs))) f) (fL i n (.sl n ds (some (G :: Fs))) L) (some (G :: ps))
  | _, _ => k n (.sl n ds none) (fR i n (.sl n ds none) f) (fL i n (.sl n ds none) L) p)
 | _ => False
def ownsC : List C → Option Nat
 | [] => none
 | .s i _ :: _ => some i
 | _ :: r => ownsC r
def outC : Nat → List C → (List C → K0) → K0
 | 0, _, _ => fun _ _ _ => False
 | fuel + 1, cs, k => match ownsC cs with
  | none => k cs
  | some i => frz i fun n x => outC fuel (fCs i n x cs) k
end Go.Dv
namespace Go.Dv
open Go Go.RowKit
open Go.Vc (vis vis_of_cell CellF RowF ValsF D inN okV splice)
variable [Out]
theorem look_rem (L : Ob) (i j : Nat) : look (rem L i) j = if i = j then none else look L j := by
 induction L with
 | nil => simp [rem, look]
 | cons p r ih =>
  obtain ⟨k, b⟩ := p
  simp only [rem]
  by_cases hk : k = i
  ·subst hk; simp only [if_true, ih, look]
   by_cases h : k = j <;> simp [h]
  ·simp only [if_neg hk, look, ih]
   by_cases h : k = j
   ·subst h; have hk' : ¬ i = k := fun e => hk e.symm
    simp [hk']
   ·simp [h]
theorem look_setL (L : Ob) (i : Nat) (b : O) (j : Nat) : look (setL L i b) j = if i = j then some b else look L j := by
 simp only [setL, look, look_rem]
 by_cases h : i = j <;> simp [h]
theorem look_kL (ds is : List Nat) (L : Ob) (j : Nat) : look (kL ds is L) j = if hit ds is j = true then none else (look L j).map (kO ds is) := by
 induction L with
 | nil => simp [kL, look]
 | cons p r ih =>
  obtain ⟨k, b⟩ := p
  simp only [kL]
  by_cases hk : hit ds is k = true
  ·simp only [hk, if_true, ih, look]
   by_cases hj : hit ds is j = true
   ·simp [hj]
   ·have : ¬ k = j := fun e => hj (e ▸ hk)
    simp [hj, this]
  ·simp only [if_neg hk, look, ih]
   by_cases h : k = j
   ·subst h; simp [hk]
   ·simp [h]
theorem look_fL (i n : Nat) (x : C) (L : Ob) (j : Nat) : look (fL i n x L) j = if j = i then none else (look L j).map (fO i n x) := by
 induction L with
 | nil => simp [fL, look]
 | cons p r ih =>
  obtain ⟨k, b⟩ := p
  simp only [fL]
  by_cases hk : k = i
  ·simp only [hk, if_true, ih, look]
   by_cases hj : j = i
   ·simp [hj]
   ·have : ¬ i = j := fun e => hj e.symm
    simp [hj, this]
  ·simp only [if_neg hk, look, ih]
   by_cases h : k = j
   ·subst h; simp [hk]
   ·simp [h]
section
variable {P : Program} {w w' : World} {β β' : Nat → Option Nat} {ok ok' : Nat → Prop}
theorem RelL.length : ∀ {cs : List C} {vs : List Value}, RelL P w β ok cs vs → cs.length = vs.length
 | [], [], _ => rfl
 | _ :: _, _ :: _, h => by simp [RelL.length h.2]
 | [], _ :: _, h => h.elim
 | _ :: _, [], h => h.elim
theorem RelL.append : ∀ {a : List C} {va : List Value} {b : List C} {vb : List Value}, RelL P w β ok a va → RelL P w β ok b vb → RelL P w β ok (a ++ b) (va ++ vb)
 | [], [], _, _, _, h => h
 | _ :: _, _ :: _, _, _, h, k => ⟨h.1, RelL.append h.2 k⟩
 | [], _ :: _, _, _, h, _ => h.elim
 | _ :: _, [], _, _, h, _ => h.elim
theorem RelL.take : ∀ {a : List C} {va : List Value} (_ : RelL P w β ok a va) (k : Nat), RelL P w β ok (a.take k) (va.take k)
 | [], [], _, _ => by simp [RelL]
 | _ :: _, _ :: _, _, 0 => by simp [RelL]
 | _ :: _, _ :: _, h, k + 1 => ⟨h.1, RelL.take h.2 k⟩
 | [], _ :: _, h, _ => h.elim
 | _ :: _, [], h, _ => h.elim
theorem RelL.drop : ∀ {a : List C} {va : List Value} (_ : RelL P w β ok a va) (k : Nat), RelL P w β ok (a.drop k) (va.drop k)
 | [], [], _, _ => by simp [RelL]
 | _ :: _, _ :: _, h, 0 => h
 | _ :: _, _ :: _, h, k + 1 => RelL.drop h.2 k
 | [], _ :: _, h, _ => h.elim
 | _ :: _, [], h, _ => h.elim
theorem RelL.splice {cs ys : List C} {vs yv : List Value} {off : Nat} (h : RelL P w β ok cs vs) (hy : RelL P w β ok ys yv) : RelL P w β ok (splice cs off ys) (vs.take off ++ yv ++ vs.drop (off + yv.length)) := by
 unfold Go.Vc.splice
 rw [List.append_assoc, hy.length]
 exact (h.take off).append (hy.append (h.drop _))
theorem RelL.vals : ∀ (vs : List Value), (∀ v ∈ vs, okV v) → RelL P w β ok (vs.map .v) vs
 | [], _ => trivial
 | v :: r, h => ⟨⟨rfl, h v (by simp)⟩, RelL.vals r fun u hu => h u (by simp [hu])⟩
structure Stab (w w' : World) (ok ok' : Nat → Prop) : Prop where
 keep : ∀ b, vis w b → ok b → w'.heap[b]? = w.heap[b]? ∧ ok' b
 cells : ∀ (b : Nat) cs ty lh, w.heap[b]? = some (.cells cs ty lh) → ∃ cs' lh', w'.heap[b]? = some (.cells cs' ty lh') ∧ cs'.size = cs.size
mutual
theorem Wh.monoF (d : D) {v : Value} {F : List Nat} (h : ∀ b ∈ F, w'.heap[b]? = w.heap[b]?) (hc : CellF w d v F) (hw : Wh w d v) : Wh w' d v := by
 match d with
 | .lit u => exact trivial
 | .sl n ds =>
  obtain ⟨a, cap, rfl, h0, hw⟩ := hw
  obtain ⟨a', cap', e, _, _, _, hc⟩ := hc
  injection e with e1 e2 e3
  subst e1 e3
  rcases hc with ⟨rfl, rfl⟩ | ⟨hne, b', o, F', e, hr, rfl⟩
  ·exact ⟨a, cap, rfl, h0, .inl rfl⟩
  ·refine ⟨a, cap, rfl, h0, hw.imp id ?_⟩
   rintro ⟨b, cs, ty, lh, sz, rfl, hb, h1, h2, h3⟩
   injection e with e
   injection e with e e'
   subst e e'
   exact ⟨b, cs, ty, lh, sz, rfl, (h b (by simp)).trans hb, h1, h2, WhR.monoF ds b (h b (by simp)) (fun x hx => h x (by simp [hx])) hr h3⟩
theorem WhR.monoF (ds : List D) (b : Nat) {o : Nat} {F : List Nat} (hb : w'.heap[b]? = w.heap[b]?) (h : ∀ x ∈ F, w'.heap[x]? = w.heap[x]?) (hc : RowF w b o ds F) (hw : WhR w b o ds) : WhR w' b o ds := by
 match ds with
 | [] => exact trivial
 | d :: r =>
  obtain ⟨v, F1, F2, h1, h2, h3, rfl⟩ := hc
  obtain ⟨⟨v', h1', h4⟩, h5⟩ := hw
  obtain rfl : v' = v := by rw [h1] at h1'; exact (Option.some.inj h1').symm
  refine ⟨⟨v', ?_, Wh.monoF d (fun x hx => h x (by simp [hx])) h2 h4⟩, WhR.monoF r b hb (fun x hx => h x (by simp [hx])) h3 h5⟩
  unfold World.cell? at h1 ⊢
  rw [hb]; exact h1
end
theorem WhL.monoF : ∀ {ds : List D} {vs : List Value} {F : List Nat}, (∀ b ∈ F, w'.heap[b]? = w.heap[b]?) → ValsF w ds vs F → WhL w ds vs → WhL w' ds vs
 | [], [], _, _, _, h => h
 | _ :: _, _ :: _, _, h, ⟨F1, F2, h1, h2, e⟩, hw => by
  subst e
  exact ⟨Wh.monoF _ (fun b hb => h b (by simp [hb])) h1 hw.1, WhL.monoF (fun b hb => h b (by simp [hb])) h2 hw.2⟩
 | [], _ :: _, _, _, h, _ => h.elim
 | _ :: _, [], _, _, h, _ => h.elim
theorem WhR.cells {b : Nat} : ∀ {ds : List D} {vs : List Value} {o : Nat}, (∀ (j : Nat) v, vs[j]? = some v → w.cell? ⟨b, o + j, none⟩ = some v) → WhL w ds vs → WhR w b o ds
 | [], _, _, _, _ => trivial
 | d :: ds, [], _, _, h => h.elim
 | d :: ds, v :: vs, o, hc, h => ⟨⟨v, hc 0 v rfl, h.1⟩, WhR.cells (fun j u hj => by have := hc (j + 1) u (by simpa using hj); rwa [show o + 1 + j = o + (j + 1) by omega]) h.2⟩
theorem WhR.vals {b : Nat} : ∀ {ds : List D} {vs : List Value} {o : Nat}, vs.length = ds.length → (∀ (j : Nat) v, vs[j]? = some v → w.cell? ⟨b, o + j, none⟩ = some v) → WhR w b o ds → WhL w ds vs
 | [], [], _, _, _, _ => trivial
 | [], _ :: _, _, hl, _, _ => by simp at hl
 | d :: ds, [], _, hl, _, _ => by simp at hl
 | d :: ds, v :: vs, o, hl, hc, h => by
  obtain ⟨⟨v', h1, h2⟩, h3⟩ := h
  have h0 := hc 0 v rfl
  rw [Nat.add_zero, h1] at h0
  obtain rfl := Option.some.inj h0
  exact ⟨h2, WhR.vals (by simpa using hl) (fun j u hj => by have := hc (j + 1) u (by simpa using hj); rwa [show o + 1 + j = o + (j + 1) by omega]) h3⟩
theorem WhL.append : ∀ {a : List D} {va : List Value} {b : List D} {vb : List Value}, WhL w a va → WhL w b vb → WhL w (a ++ b) (va ++ vb)
 | [], [], _, _, _, h => h
 | _ :: _, _ :: _, _, _, h, k => ⟨h.1, WhL.append h.2 k⟩
 | [], _ :: _, _, _, h, _ => h.elim
 | _ :: _, [], _, _, h, _ => h.elim
theorem WhL.of_app : ∀ {a : List D} {va : List Value} {b : List D} {vb : List Value}, va.length = a.length → WhL w (a ++ b) (va ++ vb) → WhL w a va ∧ WhL w b vb
 | [], [], _, _, _, h => ⟨trivial, h⟩
 | _ :: _, _ :: _, _, _, hl, h => ⟨⟨h.1, (WhL.of_app (by simpa using hl) h.2).1⟩, (WhL.of_app (by simpa using hl) h.2).2⟩
 | [], _ :: _, _, _, hl, _ => by simp at hl
 | _ :: _, [], _, _, hl, _ => by simp at hl
theorem TlC.mono {d : D} {y : Value} {G : List Nat} {F : Fp} (h : ∀ b ∈ G, w'.heap[b]? = w.heap[b]?) (hc : CellF w d y G) (t : TlC w d y G F) : TlC w' d y G F := fun Fs e => ⟨(t Fs e).1, (t Fs e).2.monoF _ h hc⟩
theorem TlL.mono {ds : List D} {ys : List Value} {G : List Nat} {F : Fp} (h : ∀ b ∈ G, w'.heap[b]? = w.heap[b]?) (hc : ValsF w ds ys G) (t : TlL w ds ys G F) : TlL w' ds ys G F := fun Fs e => ⟨(t Fs e).1, (t Fs e).2.monoF h hc⟩
theorem OwnS.tr (hs : Stab w w' ok ok') {b : Option Nat} {n : Nat} {y : Value} (h : OwnS P w b n y) : OwnS P w' b n y := by
 cases b with
 | none => exact h
 | some b =>
  obtain ⟨cap, cs, ty, lh, h1, h2, h3, h4, h5⟩ := h
  obtain ⟨cs', lh', h6, h7⟩ := hs.cells b cs ty lh h4
  exact ⟨cap, cs', ty, lh', h1, h2, h3, h6, fun sz hz => by rw [h7]; exact h5 sz hz⟩
theorem Ptrs.tr {ds is : List Nat} (hβ : ∀ i, hit ds is i = false → β' i = β i) : ∀ {l : List Nat} {vs : List Value}, hitL ds is l = false → Ptrs β l vs → Ptrs β' l vs
 | [], [], _, _ => trivial
 | i :: r, y :: t, hl, h => by
  simp only [hitL, Bool.or_eq_false_iff] at hl
  obtain ⟨⟨b, h1, h2⟩, h3⟩ := h
  exact ⟨⟨b, (hβ i hl.1).trans h1, h2⟩, h3.tr hβ hl.2⟩
 | [], _ :: _, _, h => h.elim
 | _ :: _, [], _, h => h.elim
theorem RelC.tr {ds is : List Nat} (hβ : ∀ i, hit ds is i = false → β' i = β i) (hs : Stab w w' ok ok') : ∀ {x : C} {y : Value}, RelC P w β ok x y → RelC P w' β' ok' (kC ds is x) y
 | .v x, y, h => h
 | .sl n ds F, y, ⟨G, h1, h2, h3⟩ => ⟨G, CellF.monoF _ (fun b hb => (hs.keep b (CellF.vis _ h1 b hb) (h2 b hb)).1) h1, fun b hb => (hs.keep b (CellF.vis _ h1 b hb) (h2 b hb)).2, h3.mono (fun b hb => (hs.keep b (CellF.vis _ h1 b hb) (h2 b hb)).1) h1⟩
 | .p i off, y, ⟨b, h1, h2⟩ => by
  simp only [kC]
  split
  ·trivial
  ·rename_i hh; exact ⟨b, (hβ i (by simpa using hh)).trans h1, h2⟩
 | .s i n, y, h => by
  simp only [kC]
  split
  ·trivial
  ·rename_i hh
   have h : OwnS P w (β i) n y := h
   show OwnS P w' (β' i) n y
   rw [hβ i (by simpa using hh)]; exact h.tr hs
 | .q ds, y, ⟨b, o, G, h1, h2, hv, h3, h4⟩ => by
  have hG : ∀ x ∈ G, w'.heap[x]? = w.heap[x]? ∧ ok' x := fun x hx => hs.keep x (RowF.vis b ds h2 x hx) (h4 x hx)
  obtain ⟨h6, h7⟩ := hs.keep b hv h3
  have hv' : vis w' b := by obtain ⟨o, h8, h9⟩ := hv; exact ⟨o, h6.trans h8, h9⟩
  exact ⟨b, o, G, h1, RowF.monoF b _ h6 (fun x hx => (hG x hx).1) h2, hv', h7, fun x hx => (hG x hx).2⟩
 | .fn g fs cs, y, ⟨a, b, h1, h2, h3⟩ => by
  simp only [kC]
  split
  ·trivial
  ·split
   ·trivial
   ·rename_i ha hb; exact ⟨a, b, h1, h2.tr hβ (by simpa using ha), h3.tr hβ (by simpa using hb)⟩
 | .ow .., _, h => h.elim
 | .dead, _, _ => trivial
 | .self, _, h => h
theorem RelL.tr {ds is : List Nat} (hβ : ∀ i, hit ds is i = false → β' i = β i) (hs : Stab w w' ok ok') : ∀ {x : List C} {y : List Value}, RelL P w β ok x y → RelL P w' β' ok' (kCs ds is x) y
 | [], [], _ => trivial
 | _ :: _, _ :: _, h => ⟨h.1.tr hβ hs, RelL.tr hβ hs h.2⟩
 | [], _ :: _, h => h.elim
 | _ :: _, [], h => h.elim
theorem RelT.tr {ds is : List Nat} (hβ : ∀ i, hit ds is i = false → β' i = β i) (hs : Stab w w' ok ok') : ∀ {x : List (List C × Bool)} {y : List Value}, RelT P w β ok x y → RelT P w' β' ok' (kTs ds is x) y
 | [], [], _ => trivial
 | (cs, b) :: _, _ :: _, h => ⟨by
  obtain ⟨h1, _⟩ := h
  simp only [RelT1] at h1 ⊢
  cases b with
  | true => exact RelL.tr hβ hs (by simpa using h1)
  | false =>
   simp only [Bool.false_eq_true, if_false] at h1 ⊢
   obtain ⟨vs, h2, h3⟩ := h1
   exact ⟨vs, h2, h3.tr hβ hs⟩, RelT.tr hβ hs h.2⟩
 | [], _ :: _, h => h.elim
 | _ :: _, [], h => h.elim
theorem RelS.tr {ds is : List Nat} (hβ : ∀ i, hit ds is i = false → β' i = β i) (hs : Stab w w' ok ok') {x : S} {y : Value} (h : RelS P w β ok x y) : RelS P w' β' ok' (kS ds is x) y := by
 cases x with
 | c x => exact RelC.tr hβ hs h
 | ag cs => obtain ⟨vs, h1, h2⟩ := h; exact ⟨vs, h1, h2.tr hβ hs⟩
 | tu xs => obtain ⟨vs, h1, h2⟩ := h; exact ⟨vs, h1, h2.tr hβ hs⟩
theorem kC_self {ds is : List Nat} {x : C} (h : kC ds is x = C.self) : x = C.self := by
 cases x <;> simp only [kC] at h <;> first | rfl | cases h | (split at h <;> first | cases h | (split at h <;> cases h))
theorem kCs_get {ds is : List Nat} : ∀ {cs : List C} {k : Nat}, (kCs ds is cs)[k]? = (cs[k]?).map (kC ds is)
 | [], k => by simp [kCs]
 | x :: r, 0 => by simp [kCs]
 | x :: r, k + 1 => by simpa [kCs] using kCs_get
theorem SelfOk.map {ty : TypeId} {b : Nat} {cs cs' : List C} {vs : List Value} (h : SelfOk b ty cs vs) (hm : ∀ k : Nat, cs'[k]? = some C.self → cs[k]? = some C.self) : SelfOk b ty cs' vs := fun k hk => h k (hm k hk)
theorem SelfOk.kCs {ty : TypeId} {ds is : List Nat} {b : Nat} {cs : List C} {vs : List Value} (h : SelfOk b ty cs vs) : SelfOk b ty (kCs ds is cs) vs := h.map fun k hk => by
 rw [kCs_get] at hk
 cases hc : cs[k]? with
 | none => simp [hc] at hk
 | some x => simp only [hc, Option.map_some, Option.some.injEq] at hk; rw [kC_self hk]
theorem SelfOk.none {ty : TypeId} {b : Nat} {cs : List C} {vs : List Value} (h : ∀ x ∈ cs, x ≠ C.self) : SelfOk b ty cs vs := fun k hk => absurd rfl (h _ (List.mem_of_getElem? hk))
theorem RelO.tr {ds is : List Nat} (hβ : ∀ i, hit ds is i = false → β' i = β i) (hs : Stab w w' ok ok') {i : Nat} (hi : hit ds is i = false) {o : O} (h : RelO P w β ok i o) (hb : ∀ b, β i = some b → w'.heap[b]? = w.heap[b]?) : RelO P w' β' ok' i (kO ds is o) := by
 cases o with
 | str cs =>
  obtain ⟨b, vs, ty, lh, h1, h2, hlh, hsf, h3⟩ := h
  exact ⟨b, vs, ty, lh, (hβ i hi).trans h1, (hb b h1).trans h2, hlh, hsf.kCs, h3.tr hβ hs⟩
 | arr ty n ds' F =>
  rcases h with ⟨h1, h2⟩ | ⟨b, vs, hd, junk, G, lh, h1, h2, hlh, h3, h4, h5, h6, h7⟩
  ·exact .inl ⟨(hβ i hi).trans h1, h2⟩
  ·exact .inr ⟨b, vs, hd, junk, G, lh, (hβ i hi).trans h1, (hb b h1).trans h2, hlh, h3, h4.monoF fun x hx => (hs.keep x (ValsF.vis h4 x hx) (h5 x hx)).1, fun x hx => (hs.keep x (ValsF.vis h4 x hx) (h5 x hx)).2, ⟨h6.1.mono (fun x hx => (hs.keep x (ValsF.vis h4 x hx) (h5 x hx)).1) h4, h6.2⟩, h7⟩
theorem kC_nil (x : C) : kC [] [] x = x := by
 have hh : ∀ i, hit [] [] i = false := fun i => by simp [hit, inN]
 have hl : ∀ l, hitL [] [] l = false := fun l => by induction l <;> simp_all [hitL]
 cases x <;> simp [kC, hh, hl]
theorem kCs_nil : ∀ x : List C, kCs [] [] x = x
 | [] => rfl
 | x :: r => by simp [kCs, kC_nil, kCs_nil r]
theorem kTs_nil : ∀ x : List (List C × Bool), kTs [] [] x = x
 | [] => rfl
 | (cs, b) :: r => by simp [kTs, kCs_nil, kTs_nil r]
theorem kS_nil (x : S) : kS [] [] x = x := by cases x <;> simp [kS, kC_nil, kCs_nil, kTs_nil]
theorem kO_nil (x : O) : kO [] [] x = x := by cases x <;> simp [kO, kCs_nil]
theorem RelL.st (hs : Stab w w' ok ok') {x : List C} {y : List Value} (h : RelL P w β ok x y) : RelL P w' β ok' x y := by
 have := h.tr (ds := []) (is := []) (β' := β) (fun _ _ => rfl) hs; rwa [kCs_nil] at this
theorem RelS.st (hs : Stab w w' ok ok') {x : S} {y : Value} (h : RelS P w β ok x y) : RelS P w' β ok' x y := by
 have := h.tr (ds := []) (is := []) (β' := β) (fun _ _ => rfl) hs; rwa [kS_nil] at this
theorem RelO.st (hs : Stab w w' ok ok') {i : Nat} {o : O} (h : RelO P w β ok i o) (hb : ∀ b, β i = some b → w'.heap[b]? = w.heap[b]?) : RelO P w' β ok' i o := by
 have := h.tr (ds := []) (is := []) (β' := β) (fun _ _ => rfl) hs (by simp [hit, inN]) hb; rwa [kO_nil] at this
end
structure Sim (P : Program) (n : Nat) (w0 : World) (ok0 own0 : Nat → Prop) (β : Nat → Option Nat) (f : Rg) (L : Ob) (p : Po) (a : Act) (w : World) : Prop where
 size : a.tmps.size = n
 defers : a.defers = []
 slots : ∀ i, RelS P w β (okB w0 ok0 L β) (f i) (a.tmps.getD i undef)
 objs : ∀ i o, look L i = some o → RelO P w β (okB w0 ok0 L β) i o
 inj : ∀ i j o o' b, look L i = some o → look L j = some o' → β i = some b → β j = some b → i = j
 old : ∀ b, ownB L β b → b < w0.heap.size → own0 b
 sub : (∀ b, own0 b → ok0 b) ∧ GlW w0 own0
 frame : ∀ b, b < w0.heap.size → ¬ own0 b → w.heap[b]? = w0.heap[b]?
 wd : Wd w0 w
 outer : w.os = w0.os ∧ w.tape = w0.tape ∧ w.output = w0.output
 pool : ∀ ps, p = some ps → ps.flatten.Nodup ∧ ∀ b ∈ ps.flatten, (w0.heap.size ≤ b ∨ own0 b) ∧ (∃ cs t lh, w.heap[b]? = some (.cells cs t lh) ∧ Lh cs.size lh) ∧ ¬ ownB L β b
structure Tr (L : Ob) (β : Nat → Option Nat) (w : World) (L' : Ob) (β' : Nat → Option Nat) (w' : World) : Prop where
 size : w.heap.size ≤ w'.heap.size
 keep : ∀ b, b < w.heap.size → ¬ ownB L β b → w'.heap[b]? = w.heap[b]?
 own : ∀ b, b < w.heap.size → ownB L' β' b → ownB L β b
 cells : ∀ (b : Nat) cs ty lh, w.heap[b]? = some (.cells cs ty lh) → ∃ cs' lh', w'.heap[b]? = some (.cells cs' ty lh') ∧ cs'.size = cs.size
theorem Tr.trans {L L' L'' : Ob} {β β' β'' : Nat → Option Nat} {w w' w'' : World} (h : Tr L β w L' β' w') (k : Tr L' β' w' L'' β'' w'') : Tr L β w L'' β'' w'' where
 size := Nat.le_trans h.size k.size
 keep := fun b hb ho => (k.keep b (Nat.lt_of_lt_of_le hb h.size) fun e => ho (h.own b hb e)).trans (h.keep b hb ho)
 own := fun b hb ho => h.own b hb (k.own b (Nat.lt_of_lt_of_le hb h.size) ho)
 cells := fun b cs ty lh hc => by
  obtain ⟨cs', lh', h1, h2⟩ := h.cells b cs ty lh hc
  obtain ⟨cs'', lh'', h3, h4⟩ := k.cells b cs' ty lh' h1
  exact ⟨cs'', lh'', h3, h4.trans h2⟩
theorem Tr.refl (L : Ob) (β : Nat → Option Nat) (w : World) : Tr L β w L β w := ⟨Nat.le_refl _, fun _ _ _ => rfl, fun _ _ h => h, fun _ cs _ lh h => ⟨cs, lh, h, rfl⟩⟩
structure Keep (ds : List Nat) (β : Nat → Option Nat) (a : Act) (β' : Nat → Option Nat) (a' : Act) : Prop where
 beta : ∀ j, fam j ∉ ds → β' j = β j
 tmps : ∀ j, j ∉ ds → a'.tmps.getD j undef = a.tmps.getD j undef
theorem Keep.refl (ds : List Nat) (β : Nat → Option Nat) (a : Act) : Keep ds β a β a := ⟨fun _ _ => rfl, fun _ _ => rfl⟩
theorem Keep.trans {ds es : List Nat} {β β' β'' : Nat → Option Nat} {a a' a'' : Act} (h : Keep ds β a β' a') (k : Keep es β' a' β'' a'') : Keep (ds ++ es) β a β'' a'' :=
 ⟨fun j hj => by simp at hj; rw [k.beta j hj.2, h.beta j hj.1], fun j hj => by simp at hj; rw [k.tmps j hj.2, h.tmps j hj.1]⟩
theorem Keep.mono {ds es : List Nat} {β β' : Nat → Option Nat} {a a' : Act} (h : Keep ds β a β' a') (hs : ∀ j, j ∈ ds → j ∈ es) : Keep es β a β' a' :=
 ⟨fun j hj => h.beta j (fun e => hj (hs _ e)), fun j hj => h.tmps j (fun e => hj (hs j e))⟩
abbrev Abs (P : Program) (n : Nat) (w0 : World) (ok0 own0 : Nat → Prop) (β : Nat → Option Nat) (L : Ob) (a : Act) (w : World) (ds : List Nat) (K : K0) (Ka : Act → World → Prop) : Prop :=
 ∀ β' f' L' p' a' w', Sim P n w0 ok0 own0 β' f' L' p' a' w' → Keep ds β a β' a' → Tr L β w L' β' w' → K f' L' p' → Ka a' w'
abbrev AbsS (P : Program) (n : Nat) (w0 : World) (ok0 own0 : Nat → Prop) (β : Nat → Option Nat) (L : Ob) (a : Act) (w : World) (ds : List Nat) (K : K0) (Ka : Act → World → Prop) : Prop :=
 ∀ β' f' L' p' a' w', Sim P n w0 ok0 own0 β' f' L' p' a' w' → Keep ds β a β' a' → Tr L β w L' β' w' → Go.Vc.Stay w w' → K f' L' p' → Ka a' w'
section
variable {P : Program} {n : Nat} {w0 : World} {ok0 own0 : Nat → Prop} {β : Nat → Option Nat} {f : Rg} {L : Ob} {p : Po} {a : Act} {w : World}
theorem Sim.put (h : Sim P n w0 ok0 own0 β f L p a w) (d : Option Nat) {x : S} {v : Value} (hv : RelS P w β (okB w0 ok0 L β) x v) : Sim P n w0 ok0 own0 β (put n f d x) L p (a.put d v) w where
 size := by rw [Go.Vc.Act.size_put]; exact h.size
 defers := by rw [Go.Vc.Act.defers_put]; exact h.defers
 slots := fun i => by
  cases d with
  | none => exact h.slots i
  | some d =>
   rw [Go.Vc.getD_put h.size]
   simp only [Go.Dv.put]
   by_cases hd : d < n
   ·simp only [hd, if_true, upd]
    by_cases hi : i = d
    ·simp [hi, hv]
    ·simp only [hi, false_and, if_false]; exact h.slots i
   ·simp only [hd, if_false, and_false]; exact h.slots i
 objs := h.objs
 inj := h.inj
 old := h.old
 sub := h.sub
 frame := h.frame
 wd := h.wd
 outer := h.outer
 pool := h.pool
theorem keep_put (a : Act) (d : Option Nat) (v : Value) : Keep d.toList β a β (a.put d v) :=
 ⟨fun _ _ => rfl, fun j hj => by
   cases d with
   | none => rfl
   | some d => rw [Go.Vc.getD_put rfl, if_neg (fun e => hj (by simp [e.1]))]⟩
theorem RelO.there {ok : Nat → Prop} {i : Nat} {o : O} (h : RelO P w β ok i o) {b : Nat} (hb : β i = some b) : ∃ cs ty lh, w.heap[b]? = some (.cells cs ty lh) ∧ Lh cs.size lh := by
 cases o with
 | str cs => obtain ⟨b', vs, ty, lh, h1, h2, h3, _⟩ := h; rw [hb] at h1; injection h1 with h1; subst h1; exact ⟨_, _, _, h2, h3⟩
 | arr ty n ds F =>
  rcases h with ⟨h1, _⟩ | ⟨b', vs, _, _, _, lh, h1, h2, h3, _⟩
  ·rw [hb] at h1; cases h1
  ·rw [hb] at h1; injection h1 with h1; subst h1; exact ⟨_, _, _, h2, h3⟩
theorem Sim.own_there (h : Sim P n w0 ok0 own0 β f L p a w) {b : Nat} (hb : ownB L β b) : ∃ cs ty lh, w.heap[b]? = some (.cells cs ty lh) ∧ Lh cs.size lh := by
 obtain ⟨i, o, h1, h2⟩ := hb; exact (h.objs i o h1).there h2
theorem Sim.gl (h : Sim P n w0 ok0 own0 β f L p a w) : GlW w (ownB L β) := h.sub.2.mono h.frame fun b hb hlt => h.old b hb hlt
theorem lt_of_heap {o : Obj} {b : Nat} (h : w.heap[b]? = some o) : b < w.heap.size := (Array.getElem?_eq_some_iff.1 h).1
theorem vis_lt {b : Nat} (h : vis w b) : b < w.heap.size := by obtain ⟨o, h, _⟩ := h; exact lt_of_heap h
theorem ownB_kL {ds is : List Nat} {L : Ob} {β β' : Nat → Option Nat} (hβ : ∀ i, hit ds is i = false → β' i = β i) {b : Nat} (h : ownB (kL ds is L) β' b) : ∃ i o, look L i = some o ∧ hit ds is i = false ∧ β i = some b := by
 obtain ⟨i, o, h1, h2⟩ := h
 rw [look_kL] at h1
 split at h1
 ·cases h1
 ·rename_i hh
  have hh : hit ds is i = false := by simpa using hh
  cases hl : look L i with
  | none => simp [hl] at h1
  | some o' => exact ⟨i, o', hl, hh, (hβ i hh).symm.trans h2⟩
theorem Sim.place (h : Sim P n w0 ok0 own0 β f L p a w) {d : Nat} {is : List Nat} {ob : O} {g : Option Nat} {x : S} {v : Value} {w' : World}
 (hwd : Wd w w') (hout : w'.os = w.os ∧ w'.tape = w.tape ∧ w'.output = w.output)
 (hkeep : ∀ b, b < w.heap.size → g ≠ some b → w'.heap[b]? = w.heap[b]?)
 (hg : ∀ b, g = some b → (w.heap.size ≤ b ∨ ∃ i o, look L i = some o ∧ hit [d] is i = true ∧ β i = some b) ∧ (∃ cs ty lh0, w'.heap[b]? = some (.cells cs ty lh0) ∧ ∀ cs' ty' lh, w.heap[b]? = some (.cells cs' ty' lh) → ty' = ty ∧ cs.size = cs'.size))
 (hd : fam d = d)
 (hb : (∀ i, hit [d] is i = false → (fun j => if j = d then g else β j) i = β i) → Stab w w' (okB w0 ok0 L β) (okB w0 ok0 ((d, ob) :: kL [d] is L) (fun j => if j = d then g else β j)) →
   RelO P w' (fun j => if j = d then g else β j) (okB w0 ok0 ((d, ob) :: kL [d] is L) (fun j => if j = d then g else β j)) d ob)
 (hv : RelS P w' (fun j => if j = d then g else β j) (okB w0 ok0 ((d, ob) :: kL [d] is L) (fun j => if j = d then g else β j)) x v) (hdn : d < n) :
 Sim P n w0 ok0 own0 (fun j => if j = d then g else β j) (upd (kR [d] is f) d x) ((d, ob) :: kL [d] is L) p (a.put (some d) v) w' ∧
 Tr L β w ((d, ob) :: kL [d] is L) (fun j => if j = d then g else β j) w' := by
 have hhd : hit [d] is d = true := by simp [hit, inN, hd]
 have hβ : ∀ i, hit [d] is i = false → (fun j => if j = d then g else β j) i = β i := fun i hi => by
  have : ¬ i = d := fun e => by rw [e, hhd] at hi; cases hi
  simp [this]
 have hown : ∀ b, ownB ((d, ob) :: kL [d] is L) (fun j => if j = d then g else β j) b → g = some b ∨ (g ≠ some b ∧ ownB L β b ∧ ∃ i o, look L i = some o ∧ hit [d] is i = false ∧ β i = some b) := by
  rintro b ⟨i, o, h1, h2⟩
  by_cases hi : i = d
  ·subst hi; simp at h2; exact .inl h2
  ·have h1 : look (kL [d] is L) i = some o := by
    have hdi : ¬ d = i := fun e => hi e.symm
    simpa [look, hdi] using h1
   obtain ⟨j, o', h3, h4, h5⟩ := ownB_kL hβ ⟨i, o, h1, h2⟩
   by_cases hgb : g = some b
   ·exact .inl hgb
   ·exact .inr ⟨hgb, ⟨j, o', h3, h5⟩, j, o', h3, h4, h5⟩
 have hnotg : ∀ b, vis w b → okB w0 ok0 L β b → g ≠ some b := by
  rintro b hv hok e
  rcases (hg b e).1 with h1 | ⟨i, o, h1, _, h2⟩
  ·have := vis_lt hv; omega
  ·exact hok.1 ⟨i, o, h1, h2⟩
 have hcells : ∀ (b : Nat) cs ty lh, w.heap[b]? = some (.cells cs ty lh) → ∃ cs' lh', w'.heap[b]? = some (.cells cs' ty lh') ∧ cs'.size = cs.size := fun b cs ty lh hc => by
  by_cases hgb : g = some b
  ·obtain ⟨_, cs', ty', lh0, h1, h2⟩ := hg b hgb
   obtain ⟨rfl, h3⟩ := h2 cs ty lh hc
   exact ⟨cs', lh0, h1, h3⟩
  ·exact ⟨cs, lh, (hkeep b (lt_of_heap hc) hgb).trans hc, rfl⟩
 have hst : Stab w w' (okB w0 ok0 L β) (okB w0 ok0 ((d, ob) :: kL [d] is L) (fun j => if j = d then g else β j)) := by
  refine ⟨fun b hv hok => ⟨hkeep b (vis_lt hv) (hnotg b hv hok), fun ho => ?_, hok.2⟩, hcells⟩
  rcases hown b ho with h1 | ⟨_, h1, _⟩
  ·exact hnotg b hv hok h1
  ·exact hok.1 h1
 have hsz := hwd
 refine ⟨⟨by rw [Go.Vc.Act.size_put]; exact h.size, by rw [Go.Vc.Act.defers_put]; exact h.defers, fun i => ?_, fun i o hl => ?_, fun i j o o' b hi hj hbi hbj => ?_, fun b ho hlt => ?_, h.sub, fun b hb hn => ?_, h.wd.trans hwd, ⟨hout.1.trans h.outer.1, hout.2.1.trans h.outer.2.1, hout.2.2.trans h.outer.2.2⟩, fun ps hp => ?_⟩, ⟨hsz, fun b hb hn => ?_, fun b hb ho => ?_, hcells⟩⟩
 ·rw [Go.Vc.getD_put h.size]
  simp only [upd]
  by_cases hi : i = d
  ·subst hi; simp only [hdn, and_true, if_true]; exact hv
  ·simp only [hi, false_and, if_false, kR]; exact (h.slots i).tr hβ hst
 ·by_cases hi : i = d
  ·subst hi; simp [look] at hl; subst hl; exact hb hβ hst
  ·have h1 : look (kL [d] is L) i = some o := by
    have hdi : ¬ d = i := fun e => hi e.symm
    simpa [look, hdi] using hl
   rw [look_kL] at h1
   split at h1
   ·cases h1
   ·rename_i hh
    have hh : hit [d] is i = false := by simpa using hh
    cases hl' : look L i with
    | none => simp [hl'] at h1
    | some o' =>
     simp [hl'] at h1
     subst h1
     refine (h.objs i o' hl').tr hβ hst hh fun b hb => ?_
     obtain ⟨cs, ty, _, hc, _⟩ := (h.objs i o' hl').there hb
     refine hkeep b (lt_of_heap hc) fun e => ?_
     rcases (hg b e).1 with h2 | ⟨j, o2, h2, h3, h4⟩
     ·have := lt_of_heap hc; omega
     ·have := h.inj i j o' o2 b hl' h2 hb h4
      subst this; rw [h3] at hh; cases hh
 ·have aux : ∀ i o, look ((d, ob) :: kL [d] is L) i = some o → (if i = d then g else β i) = some b → i ≠ d → hit [d] is i = false ∧ (∃ o', look L i = some o') ∧ β i = some b := by
   intro i o hi hbi hid
   have h1 : look (kL [d] is L) i = some o := by
    have hdi : ¬ d = i := fun e => hid e.symm
    simpa [look, hdi] using hi
   rw [look_kL] at h1
   split at h1
   ·cases h1
   ·rename_i hh
    cases hl' : look L i with
    | none => simp [hl'] at h1
    | some o' => exact ⟨by simpa using hh, ⟨o', rfl⟩, by simpa [hid] using hbi⟩
  have cross : ∀ i o, look ((d, ob) :: kL [d] is L) i = some o → (if i = d then g else β i) = some b → i ≠ d → g = some b → False := by
   intro i o hi hbi hid e
   obtain ⟨h1, ⟨o', h2⟩, h3⟩ := aux i o hi hbi hid
   rcases (hg b e).1 with h4 | ⟨j, o2, h4, h5, h6⟩
   ·obtain ⟨cs, ty, _, hc, _⟩ := (h.objs i o' h2).there h3
    have := lt_of_heap hc; omega
   ·have := h.inj i j o' o2 b h2 h4 h3 h6
    subst this; rw [h5] at h1; cases h1
  by_cases hid : i = d
  ·by_cases hjd : j = d
   ·rw [hid, hjd]
   ·exact (cross j o' hj hbj hjd (by simpa [hid] using hbi)).elim
  ·by_cases hjd : j = d
   ·exact (cross i o hi hbi hid (by simpa [hjd] using hbj)).elim
   ·obtain ⟨_, ⟨o1, h2⟩, h3⟩ := aux i o hi hbi hid
    obtain ⟨_, ⟨o2, h5⟩, h6⟩ := aux j o' hj hbj hjd
    exact h.inj i j o1 o2 b h2 h5 h3 h6
 ·rcases hown b ho with h1 | ⟨_, h1, _⟩
  ·rcases (hg b h1).1 with h2 | ⟨i, o, h2, _, h3⟩
   ·have : w0.heap.size ≤ w.heap.size := h.wd; omega
   ·exact h.old b ⟨i, o, h2, h3⟩ hlt
  ·exact h.old b h1 hlt
 ·have hbw : b < w.heap.size := Nat.lt_of_lt_of_le hb h.wd
  refine (hkeep b hbw fun e => ?_).trans (h.frame b hb hn)
  rcases (hg b e).1 with h2 | ⟨i, o, h2, _, h3⟩
  ·omega
  ·exact hn (h.old b ⟨i, o, h2, h3⟩ hb)
 ·obtain ⟨h1, h2⟩ := h.pool ps hp
  refine ⟨h1, fun b hb => ?_⟩
  obtain ⟨h3, ⟨cs, t, lh, h4, hlh⟩, h5⟩ := h2 b hb
  have hgb : g ≠ some b := fun e => by
   rcases (hg b e).1 with h6 | ⟨i, o, h6, _, h7⟩
   ·have := lt_of_heap h4; omega
   ·exact h5 ⟨i, o, h6, h7⟩
  refine ⟨h3, ⟨cs, t, lh, (hkeep b (lt_of_heap h4) hgb).trans h4, hlh⟩, fun ho => ?_⟩
  rcases hown b ho with h6 | ⟨_, h6, _⟩
  ·exact hgb h6
  ·exact h5 h6
 ·refine hkeep b hb fun e => ?_
  rcases (hg b e).1 with h2 | ⟨i, o, h2, _, h3⟩
  ·omega
  ·exact hn ⟨i, o, h2, h3⟩
 ·rcases hown b ho with h1 | ⟨_, h1, _⟩
  ·rcases (hg b h1).1 with h2 | ⟨i, o, h2, _, h3⟩
   ·omega
   ·exact ⟨i, o, h2, h3⟩
  ·exact h1
theorem keep_place (a : Act) (d : Nat) (v : Value) (hd : fam d = d) (g : Option Nat) : Keep [d] β a (fun j => if j = d then g else β j) (a.put (some d) v) :=
 ⟨fun j hj => by
   have : ¬ j = d := fun e => hj (by rw [e, hd]; simp)
   simp [this], fun j hj => by rw [Go.Vc.getD_put rfl, if_neg (fun e => hj (by simp [e.1]))]⟩
end
end Go.Dv
namespace Go.Dv
open Go Go.RowKit
open Go.Vc (vis vis_of_cell CellF RowF ValsF D inN okV tyS TS sizeTS elemS fieldOff zeroC placesS lenK zerosOf convBS splice guardSlot)
variable [Out]
def okVB : Value → Bool
 | .string s => decide (s.size ≤ maxLen)
 | .agg _ | .tuple _ => false
 | _ => true
theorem okVB_spec {v : Value} (h : okVB v = true) : okV v := by cases v <;> simp_all [okVB, okV]
def okCB : Value → Bool
 | .agg xs => xs.toList.all okVB
 | v => okVB v
def okOpd : Operand → Bool
 | .const v => okCB v
 | _ => true
def okOper (o : Oper) : Bool := o.op.operands.toList.all okOpd
def zeroD (P : Program) (t : TypeId) : Option (List Value) := match zeroC P t with | some z => if z.all okVB = true then some z else none | none => none
def zerosD (P : Program) (e sz k : Nat) : Option (List Value) := match zeroD P e with | some z => if z.length = sz then some (List.replicate k z).flatten else none | none => none
theorem zeroD_spec {P : Program} {t : TypeId} {z : List Value} (h : zeroD P t = some z) : zeroC P t = some z ∧ ∀ v ∈ z, okV v := by
 unfold zeroD at h
 cases hz : zeroC P t with
 | none => simp [hz] at h
 | some z' =>
  simp only [hz] at h
  split at h
  ·rename_i ha
   injection h with h; subst h
   exact ⟨rfl, fun v hv => okVB_spec (List.all_eq_true.1 ha v hv)⟩
  ·cases h
theorem zerosD_spec {P : Program} {e sz k : Nat} {z : List Value} (h : zerosD P e sz k = some z) : zerosOf P e sz k = some z ∧ ∀ v ∈ z, okV v := by
 unfold zerosD at h
 cases hz : zeroD P e with
 | none => simp [hz] at h
 | some z' =>
  obtain ⟨h1, h2⟩ := zeroD_spec hz
  simp only [hz] at h
  split at h
  ·rename_i hl
   injection h with h; subst h
   refine ⟨by unfold zerosOf; rw [h1]; simp [hl], fun v hv => ?_⟩
   simp only [List.mem_flatten, List.mem_replicate] at hv
   obtain ⟨l, ⟨_, rfl⟩, hv⟩ := hv
   exact h2 v hv
  ·cases h
abbrev Gd (b : Bool) (KA : K0) (fA : Rg) (KB : K0) (fB : Rg) (L : Ob) (p : Po) : Prop := (b = true → KA fA L p) ∧ (b = false → KB fB L p)
def create (n : Nat) (d : Option Nat) (is : List Nat) (ob : O) (mk : Nat → C) (K : K0) : K0 := fun f L p =>
 match d with
 | some d => if d < n then K (upd (kR [d] is f) d (.c (mk d))) ((d, kO [d] is ob) :: kL [d] is L) p else False
 | none => False
def dPure (P : Program) (n : Nat) (d : Option Nat) (s : Sem Value) (K : K0) : K0 := fun f L p => ∃ v, (∀ w, s.run P w = .ok v w) ∧ okV v ∧ K (put n f d (.c (.v v))) L p
def takeD : Nat → List D → Option (List D)
 | 0, _ => some []
 | k + 1, x :: r => (match takeD k r with | some xs => some (x :: xs) | none => none)
 | _ + 1, [] => none
def goodC : C → Bool
 | .dead => false
 | .ow .. => false
 | .self => false
 | _ => true
def selfZ (t : TypeId) (cs : List C) : List C := if t = 246 then (match cs with | .v (.pointer none) :: r => .self :: r | cs => cs) else cs
def mgC : C → C → C
 | .self, .v (.pointer none) => .self
 | _, y => y
def mg : List C → List C → List C
 | x :: r, y :: t => mgC x y :: mg r t
 | [], t => t
 | _ :: _, [] => []
def noSelf : List C → Bool
 | [] => true
 | .self :: _ => false
 | _ :: r => noSelf r
def kLoad (n : Nat) (d : Option Nat) (t : TS) (cs : List C) (K : K0) : K0 := fun f L p =>
 match mkS t cs with
 | some s => K (put n f d s) L p
 | none => False
def dLoad (P : Program) (n : Nat) (d : Option Nat) (t : TypeId) (x : S) (K : K0) : K0 := fun f L p =>
 match x with
 | .c (.p i off) => (match look L i with
  | some (.str cs) => off + sizeTS (tyS P t) ≤ cs.length ∧ kLoad n d (tyS P t) ((cs.drop off).take (sizeTS (tyS P t))) K f L p
  | some (.arr _ _ ds _) => (match takeD (sizeTS (tyS P t)) (ds.drop off) with
   | some xs => kLoad n d (tyS P t) (csOf xs) K f L p
   | none => False)
  | none => False)
 | .c (.q ds) => (match takeD (sizeTS (tyS P t)) ds with
  | some xs => kLoad n d (tyS P t) (csOf xs) K f L p
  | none => False)
 | _ => False
def apF : List (List Nat) → List (List Nat) → List (List Nat)
 | [], b => b
 | x :: r, b => x :: apF r b
def setF (F G : Fp) : Fp := match F, G with | some a, some b => some (apF a b) | _, _ => none
def dStore (P : Program) (n : Nat) (d : Option Nat) (t : TypeId) (x y : S) (K : K0) : K0 := fun f L p =>
 match cellsOf? y with
 | some ys => ys.all goodC = true ∧ ys.length = sizeTS (tyS P t) ∧ tyS P t ≠ .bad ∧ (match x with
  | .c (.p i off) => (match look L i with
   | some (.str cs) => off + ys.length ≤ cs.length ∧ K (put n f d (.c .dead)) (setL L i (.str (splice cs off (mg (cs.drop off) ys)))) p
   | some (.arr ty m ds F) => off + ys.length ≤ ds.length ∧ (match dsOf ys with
    | some (es, G) => K (put n f d (.c .dead)) (setL L i (.arr ty m (splice ds off es) (setF F G))) p
    | none => False)
   | none => False)
  | _ => False)
 | none => False
def bytesD (l : List UInt8) : List D := l.map fun b => .lit (.int .u8 (b.toNat : Int))
def appOk (P : Program) (T U : TypeId) : Prop := T = U ∨ lenK P U = 2
def newsOf (t : S) (L : Ob) (k : Nat → List D → Fp → Prop) : Prop :=
 match t with
 | .c (.s j q) => (match look L j with | some (.arr _ m ds F) => m = q ∧ k q ds F | _ => False)
 | .c (.sl q ds F) => k q ds F
 | .c (.v (.slice none 0 0)) => k 0 [] (some [])
 | .c (.v (.string s)) => k s.size (bytesD s.data.toList) (some [])
 | _ => False
def room (q bytes : Nat) : Prop := q ≤ maxLen ∧ q * bytes ≤ 140737488355328
def dAppend (P : Program) (n : Nat) (d : Option Nat) (T : TypeId) (s t : S) (K : K0) : K0 := fun f L p =>
 match elemS P T with
 | none => False
 | some (e, sz, bytes) => newsOf t L fun q es G => 0 < sz ∧ es.length = q * sz ∧
  match s with
  | .c (.s i m) => (match look L i with
   | some (.arr ty m' ds F) => ty = e ∧ m' = m ∧ room (m + q) bytes ∧ create n d [i] (.arr e (m + q) (ds ++ es) (tell p (joinF F G))) (fun d => .s d (m + q)) K f L p
   | _ => False)
  | .c (.v (.slice none 0 0)) => room q bytes ∧ create n d [] (.arr e q es (tell p G)) (fun d => .s d q) K f L p
  | _ => False
abbrev CallT := FuncId → List S → Nat → Option Nat → K0 → K0
def parts (f : Rg) (ps : List (Nat × Operand)) : List (Nat × S) := ps.map fun x => (x.1, ev f x.2)
def dBuildS (P : Program) (n : Nat) (d : Option Nat) (T len : Nat) (ps : List (Nat × S)) (K : K0) : K0 := fun f L p =>
 match elemS P T with
 | some (e, sz, _) => (match zerosD P e sz len with
  | some zs => (match fillC ((List.range len).map fun i => (i * sz, sz)) (zs.map .v) ps with
   | some cs => 0 < sz ∧ len * sz ≤ 16777216 ∧ outC 12 cs (fun cs f L p => match dsOf cs with
    | some (ds, F) => create n d [] (.arr e len ds (tell p F)) (fun d => .s d len) K f L p
    | none => False) f L p
   | none => False)
  | none => False)
 | none => False
def dIndexAddr (P : Program) (n : Nat) (d : Option Nat) (T : TypeId) (x i : S) (K : K0) : K0 := fun f L p =>
 match i with
 | .c (.v (.int _ k)) => (match elemS P T with
  | some (_, sz, _) => (match x with
   | .c (.s j ln) => 0 ≤ k ∧ k < ln ∧ K (put n f d (.c (.p j (k.toNat * sz)))) L p
   | .c (.sl ln ds _) => 0 ≤ k ∧ k < ln ∧ ∃ ds' : List D, ds.drop (k.toNat * sz) = ds' ∧ ds' ≠ [] ∧ K (put n f d (.c (.q ds'))) L p
   | _ => False)
  | none => False)
 | _ => False
def dLen (P : Program) (n : Nat) (d : Option Nat) (T : TypeId) (x : S) (K : K0) : K0 := fun f L p =>
 match x with
 | .c (.s _ ln) => lenK P T = 1 ∧ (ln ≤ 9223372036854775807 → K (put n f d (.c (.v (.int .i64 ln)))) L p)
 | .c (.sl ln _ _) => lenK P T = 1 ∧ (ln ≤ 9223372036854775807 → K (put n f d (.c (.v (.int .i64 ln)))) L p)
 | .c (.v (.slice none 0 0)) => lenK P T = 1 ∧ K (put n f d (.c (.v (.int .i64 0)))) L p
 | .c (.v (.string s)) => lenK P T = 2 ∧ (s.size ≤ 9223372036854775807 → K (put n f d (.c (.v (.int .i64 s.size)))) L p)
 | _ => False
def vals? : List C → Option (List Value)
 | [] => some []
 | .v x :: r => match vals? r with | some vs => some (x :: vs) | none => none
 | _ :: _ => none
def plain? : S → Option Value
 | .c (.v x) => some x
 | .ag cs => match vals? cs with | some vs => some (.agg vs.toArray) | none => none
 | _ => none
def dConvB (P : Program) (n : Nat) (d : Option Nat) (s t : TypeId) (ln : Nat) (ds : List D) (K : K0) : K0 := fun f L p =>
 convBS P s t = true ∧ ln ≤ maxLen ∧ ∃ bs : List UInt8, bs.length = ln ∧ ds = bytesD bs ∧ K (put n f d (.c (.v (.string ⟨bs.toArray⟩)))) L p
def dConv (P : Program) (n : Nat) (d : Option Nat) (s t : TypeId) (x : S) (K : K0) : K0 := fun f L p =>
 match x with
 | .c (.sl ln ds _) => dConvB P n d s t ln ds K f L p
 | .c (.s i ln) => (match look L i with
  | some (.arr _ m ds _) => m = ln ∧ dConvB P n d s t ln ds K f L p
  | _ => False)
 | .c (.v a) => dPure P n d (convert s t a) K f L p
 | _ => False
def comp? : S → Nat → Option S
 | .tu xs, i => match xs[i]? with
  | some ([c], true) => some (.c c)
  | some (cs, false) => some (.ag cs)
  | _ => none
 | _, _ => none
def ptrIds : List S → Option (List Nat)
 | [] => some []
 | .c (.p i 0) :: r => match ptrIds r with | some is => some (i :: is) | none => none
 | _ :: _ => none
def optV : Option S → Option (Option Value)
 | none => some none
 | some (.c (.v a)) => some (some a)
 | some _ => none
def loB : Option Value → Option Int
 | none => some 0
 | some (.int _ a) => some a
 | some _ => none
def hiB (ln : Nat) : Option Value → Option Int
 | none => some ln
 | some (.int _ a) => some a
 | some _ => none
def dCut (P : Program) (n : Nat) (d : Option Nat) (T : TypeId) (ln : Nat) (ds : List D) (l h : Option Value) (K : K0) : K0 := fun f L p =>
 match elemS P T, loB l, hiB ln h with
 | some (_, sz, _), some l, some h => 0 ≤ l ∧ l ≤ h ∧ h ≤ ln ∧ K (put n f d (.c (.sl (h - l).toNat ((ds.drop (l.toNat * sz)).take ((h - l).toNat * sz)) none))) L p
 | _, _, _ => False
def dSlice (P : Program) (n : Nat) (d : Option Nat) (T : TypeId) (x : S) (l h : Option Value) (K : K0) : K0 := fun f L p =>
 match x with
 | .c (.v (.string s)) => dPure P n d (Instr.sliceAt T (.string s) l h none) K f L p
 | .c (.sl ln ds _) => dCut P n d T ln ds l h K f L p
 | _ => False
def slOf : S → Option Nat
 | .c (.s i _) => some i
 | _ => none
def elemZ (P : Program) (T : TypeId) : Option (TypeId × Nat × Nat × List D) :=
 match elemS P T with
 | some (e, sz, by') => (match zeroD P e with
  | some z => if z.length = sz then (match dsOf (z.map .v) with
   | some (zd, some []) => some (e, sz, by', zd)
   | _ => none) else none
  | none => none)
 | none => none
def dMake (P : Program) (n : Nat) (d : Option Nat) (T : TypeId) (l c : S) (K : K0) : K0 := fun f L p =>
 match l with
 | .c (.v (.int .i64 a)) => (match c with
  | .c (.v (.int .i64 b)) => (match elemZ P T with
   | some (e, sz, bytes, zd) => 0 ≤ a ∧ a = b ∧ 0 < sz ∧ b * bytes ≤ 140737488355328 ∧ b ≤ 9223372036854775807 ∧
    create n d [] (.arr e a.toNat (List.replicate a.toNat zd).flatten (tell p (some []))) (fun d => .s d a.toNat) K f L p
   | none => False)
  | _ => False)
 | _ => False
variable (CT : CallT) in
def dOp (P : Program) (n : Nat) (o : Oper) (K : K0) : K0 := fun f L p =>
 match o.op with
 | .move x | .assign x => K (put n f o.dst (ev f x)) L p
 | .pick c a b => (match ev f c with
  | .c (.v (.bool t)) => Gd t K (put n f o.dst (ev f a)) K (put n f o.dst (ev f b)) L p
  | _ => False)
 | .alloc t => (match zeroD P t with | some z => create n o.dst [] (.str (selfZ t (z.map .v))) (fun d => .p d 0) K f L p | none => False)
 | .box t x => (match cellsOf? (ev f x) with | some cs => noSelf cs = true ∧ create n o.dst [] (.str cs) (fun d => .p d 0) K f L p | none => False)
 | .build t ps => (match zeroD P t, placesS P t with
  | some z, some pl => (match fillC pl (z.map .v) (parts f ps.toList) with
   | some cs => K (put n f o.dst (.ag cs)) L p
   | none => False)
  | _, _ => False)
 | .buildSlice T len ps => dBuildS P n o.dst T len (parts f ps.toList) K f L p
 | .makeSlice T l c => dMake P n o.dst T (ev f l) (ev f c) K f L p
 | .load t x => dLoad P n o.dst t (ev f x) K f L p
 | .store t x y => dStore P n o.dst t (ev f x) (ev f y) K f L p
 | .fieldAddr T x k => (match fieldOff P T k, ev f x with
  | some q, .c (.p i off) => K (put n f o.dst (.c (.p i (off + q)))) L p
  | some q, .c (.q ds) => K (put n f o.dst (.c (.q (ds.drop q)))) L p
  | _, _ => False)
 | .indexAddr T x i => dIndexAddr P n o.dst T (ev f x) (ev f i) K f L p
 | .makeFunc (.func g) first captured => (match ptrIds (first.toList.map (ev f)), ptrIds (captured.toList.map (ev f)) with
  | some a, some b => K (put n f o.dst (.c (.fn g a b))) L p
  | _, _ => False)
 | .call c => (match c.callee with
  | .value g => (match ev f g with
   | .c (.fn g a b) => CT g (a.map (fun i => .c (.p i 0)) ++ c.args.toList.map (ev f) ++ b.map (fun i => .c (.p i 0))) n o.dst K f L p
   | _ => False)
  | .builtin .len => (match c.args.toList.map (ev f), c.argTypes.toList with
   | [x], [T] => dLen P n o.dst T x K f L p
   | _, _ => False)
  | .builtin .max => (match c.args.toList.map (ev f) with
   | [x, y] => (match plain? x, plain? y with
    | some (.int k a), some (.int _ b) => K (put n f o.dst (.c (.v (.int k (if b > a then b else a))))) L p
    | _, _ => False)
   | _ => False)
  | .builtin .min => (match c.args.toList.map (ev f) with
   | [x, y] => (match plain? x, plain? y with
    | some (.int k a), some (.int _ b) => K (put n f o.dst (.c (.v (.int k (if b < a then b else a))))) L p
    | _, _ => False)
   | _ => False)
  | .builtin .append => (match c.args.toList.map (ev f), c.argTypes.toList with
   | [s, t], [T, U] => appOk P T U ∧ Go.Vc.zeroOk P T = true ∧ dAppend P n o.dst T s t K f L p
   | _, _ => False)
  | _ => False)
 | .binOp op t x y _ => (match plain? (ev f x), plain? (ev f y) with
  | some a, some b => dPure P n o.dst (do eqGuard op t x y a b; binOp op t a b) K f L p
  | _, _ => False)
 | .unOp op _ x => (match ev f x with
  | .c (.v a) => dPure P n o.dst (Op.unary op a) K f L p
  | _ => False)
 | .nilCheck x => (match ev f x with
  | .c (.p i off) => K (put n f o.dst (.c (.p i off))) L p
  | .c (.q ds) => K (put n f o.dst (.c (.q ds))) L p
  | .c (.fn g a b) => K (put n f o.dst (.c (.fn g a b))) L p
  | _ => False)
 | .convert s t x => dConv P n o.dst s t (ev f x) K f L p
 | .extract x i => (match comp? (ev f x) i with
  | some s => K (put n f o.dst s) L p
  | none => False)
 | .index T x i => (match ev f x, ev f i with
  | .c (.v a), .c (.v b) => dPure P n o.dst (Instr.index T a b) K f L p
  | _, _ => False)
 | .slice T x lo hi mx => (match mx, optV (lo.map (ev f)), optV (hi.map (ev f)) with
  | none, some l, some h => dSlice P n o.dst T (ev f x) l h K f L p
  | _, _, _ => False)
 | _ => False
end Go.Dv
namespace Go.Dv
open Go Go.RowKit
open Go.Vc (vis vis_of_cell CellF RowF ValsF D inN okV tyS TS sizeTS elemS fieldOff zeroC placesS lenK zerosOf convBS splice guardSlot Stay lodO Sw add_lit0 run_v tyS_one tyS_agg run_loadVar_one run_loadVar_agg zeroC_run underlying_run fieldOff_spec)
variable [Out]
section
variable {P : Program} {n : Nat} {w0 : World} {ok0 own0 : Nat → Prop} {β : Nat → Option Nat} {f : Rg} {L : Ob} {p : Po} {a : Act} {w : World}
 {K : K0} {Ka : Act → World → Prop} {Q : Exit → Act → World → Prop} {CT : CallT}
theorem ev_rel (h : Sim P n w0 ok0 own0 β f L p a w) {x : Operand} (hx : okOpd x = true) : RelS P w β (okB w0 ok0 L β) (ev f x) (a.eval x) := by
 cases x with
 | tmp t => exact h.slots t
 | const v =>
  cases v with
  | agg xs => exact ⟨xs.toList, by simp [Act.eval], RelL.vals _ fun v hv => okVB_spec (List.all_eq_true.1 hx v hv)⟩
  | _ => exact ⟨rfl, okVB_spec hx⟩
 | global g => exact ⟨rfl, trivial⟩
 | func g => exact ⟨[], [], rfl, trivial, trivial⟩
def Yv (P : Program) (n : Nat) (o : Oper) (a : Act) (w : World) (β : Nat → Option Nat) (ok : Nat → Prop) (f : Rg) (L : Ob) (p : Po) (K : K0) : Prop :=
 ∃ x v, (∀ w', Sw o w w' → (execOp a.eval o).run P w' = .ok (.value v) w') ∧ RelS P w β ok x v ∧ K (put n f o.dst x) L p
theorem okV_of_cell {d : D} {v : Value} {F : List Nat} (h : CellF w d v F) : RelC P w β (fun b => b ∈ F) (cOf d) v := by
 cases d with
 | lit u => obtain ⟨h1, _, h2⟩ := h; exact ⟨h1, h1 ▸ (h1 ▸ h2)⟩
 | sl n ds => exact ⟨F, h, fun b hb => hb, fun _ e => by cases e⟩
theorem RelC.okmono {ok ok' : Nat → Prop} (h : ∀ b, ok b → ok' b) {x : C} {y : Value} (hr : RelC P w β ok x y) : RelC P w β ok' x y := by
 cases x with
 | sl n ds F => obtain ⟨G, h1, h2, h3⟩ := hr; exact ⟨G, h1, fun b hb => h b (h2 b hb), h3⟩
 | q ds => obtain ⟨b, o, G, h1, h2, h3, h4, h5⟩ := hr; exact ⟨b, o, G, h1, h2, h3, h b h4, fun x hx => h x (h5 x hx)⟩
 | v x => exact hr
 | p i off => exact hr
 | s i n => exact hr
 | fn g a b => exact hr
 | ow ty n ds F => exact hr
 | dead => exact hr
 | self => exact hr
theorem cOf_rel {ok : Nat → Prop} {d : D} {v : Value} {F : List Nat} (h : CellF w d v F) (hok : ∀ b ∈ F, ok b) : RelC P w β ok (cOf d) v :=
 (okV_of_cell h).okmono hok
theorem csOf_rel {ok : Nat → Prop} : ∀ {ds : List D} {vs : List Value} {F : List Nat}, ValsF w ds vs F → (∀ b ∈ F, ok b) → RelL P w β ok (csOf ds) vs
 | [], [], _, _, _ => trivial
 | d :: ds, v :: vs, F, h, hok => by
  obtain ⟨F1, F2, h1, h2, rfl⟩ := h
  exact ⟨cOf_rel h1 fun b hb => hok b (by simp [hb]), csOf_rel h2 fun b hb => hok b (by simp [hb])⟩
 | [], _ :: _, _, h, _ => h.elim
 | _ :: _, [], _, h, _ => h.elim
theorem takeD_spec : ∀ {k : Nat} {ds xs : List D}, takeD k ds = some xs → ∃ r, ds = xs ++ r ∧ xs.length = k
 | 0, ds, xs, h => by simp [takeD] at h; subst h; exact ⟨ds, rfl, rfl⟩
 | k + 1, [], xs, h => by simp [takeD] at h
 | k + 1, x :: r, xs, h => by
  simp only [takeD] at h
  cases hr : takeD k r with
  | none => simp [hr] at h
  | some ys =>
   simp [hr] at h; subst h
   obtain ⟨q, h1, h2⟩ := takeD_spec hr
   exact ⟨q, by rw [h1]; rfl, by simp [h2]⟩
theorem mkS_rel {ok : Nat → Prop} {t : TS} {cs : List C} {s : S} (h : mkS t cs = some s) {vs : List Value} (hr : RelL P w β ok cs vs) :
 (t = .one ∧ ∃ v, vs = [v] ∧ RelS P w β ok s v) ∨ (∃ k, t = .agg k ∧ vs.length = k ∧ RelS P w β ok s (.agg vs.toArray)) := by
 unfold mkS at h
 split at h
 ·split at h
  ·rename_i c
   simp at h; subst h
   cases vs with
   | nil => exact hr.elim
   | cons v r => cases r with
    | nil => exact .inl ⟨rfl, v, rfl, hr.1⟩
    | cons _ _ => exact hr.2.elim
  ·cases h
 ·rename_i k
  split at h
  ·rename_i hl
   simp at h; subst h
   exact .inr ⟨k, rfl, by rw [← hr.length]; exact hl, vs, rfl, hr⟩
  ·cases h
 ·cases h
theorem load_cells {o : Oper} {t : TypeId} {x : Operand} (ho : o.op = .load t x) {ad : Addr} (he : a.eval x = .pointer (some ad)) (hsp : ad.spot = none) {cs : List C} {vs : List Value}
 (hr : RelL P w β (okB w0 ok0 L β) cs vs) (hc : ∀ j v, vs[j]? = some v → w.cell? ⟨ad.block, ad.off + j, none⟩ = some v) (h : kLoad n o.dst (tyS P t) cs K f L p) : Yv P n o a w β (okB w0 ok0 L β) f L p K := by
 have hlod : lodO o = true := by simp [lodO, ho]
 have hrun : ∀ {v w'}, (loadVar t ad).run P w' = .ok v w' → (execOp a.eval o).run P w' = .ok (.value v) w' := by
  intro v w' hr
  simp [execOp, ho, Instr.loadAt, Instr.sureAddr, he, hr]
 obtain ⟨b, off, sp⟩ := ad
 have hsp : sp = none := hsp
 subst hsp
 unfold kLoad at h
 split at h
 case h_2 => exact h.elim
 rename_i s hs
 rcases mkS_rel hs hr with ⟨ht, v, rfl, hv⟩ | ⟨k, ht, hl, hv⟩
 ·refine ⟨s, v, fun w' hw => hrun (run_loadVar_one ht ((hw hlod).cell ?_)), hv, h⟩
  simpa using hc 0 v rfl
 ·refine ⟨s, _, fun w' hw => hrun (run_loadVar_agg ht hl fun j v hj => (hw hlod).cell ?_), hv, h⟩
  rw [add_lit0]; exact hc j v hj
theorem row_cells {b o : Nat} {ds : List D} {G : List Nat} {ok : Nat → Prop} (h : RowF w b o ds G) (hok : ∀ x ∈ G, ok x) {k : Nat} {xs : List D} (hk : takeD k ds = some xs) :
 ∃ vs, RelL P w β ok (csOf xs) vs ∧ ∀ j v, vs[j]? = some v → w.cell? ⟨b, o + j, none⟩ = some v := by
 obtain ⟨r, rfl, _⟩ := takeD_spec hk
 obtain ⟨vs, h1, h2⟩ := h.vals
 obtain ⟨va, vb, Fa, Fb, rfl, rfl, h3, h4⟩ := h2.split
 refine ⟨va, csOf_rel h3 fun x hx => hok x (by simp [hx]), fun j v hj => h1 j v ?_⟩
 rw [List.getElem?_append_left (List.getElem?_eq_some_iff.1 hj).1]; exact hj
theorem dropRow {b : Nat} : ∀ {ds : List D} {o : Nat} {G : List Nat} (k : Nat), RowF w b o ds G → k ≤ ds.length → ∃ G', RowF w b (o + k) (ds.drop k) G' ∧ ∀ x ∈ G', x ∈ G
 | ds, o, G, 0, h, _ => ⟨G, by simpa using h, fun x hx => hx⟩
 | [], o, G, k + 1, h, hk => by simp at hk
 | d :: ds, o, G, k + 1, h, hk => by
  obtain ⟨v, F1, F2, h1, h2, h3, h4⟩ := h
  obtain ⟨G', h5, h6⟩ := dropRow k h3 (by simpa using hk)
  refine ⟨G', ?_, fun x hx => by rw [h4]; exact List.mem_append_right _ (h6 x hx)⟩
  have : o + (k + 1) = o + 1 + k := by omega
  rw [this]; simpa using h5
theorem load_yv {o : Oper} {t : TypeId} {x : Operand} (ho : o.op = .load t x) (hok : okOper o = true) (hs : Sim P n w0 ok0 own0 β f L p a w)
 (h : dLoad P n o.dst t (ev f x) K f L p) : Yv P n o a w β (okB w0 ok0 L β) f L p K := by
 have hx := ev_rel hs (x := x) (by simp [okOper, Op.operands, ho] at hok; exact hok)
 unfold dLoad at h
 split at h
 ·rename_i i off hev
  rw [hev] at hx
  obtain ⟨b, hb, hx⟩ := hx
  split at h
  ·rename_i cs hl
   obtain ⟨b', vs, ty, lh, h1, h2, hlh, _, h3⟩ := hs.objs i _ hl
   rw [hb] at h1; injection h1 with h1; subst h1
   obtain ⟨hle, h⟩ := h
   refine load_cells ho hx rfl ((h3.drop off).take _) (fun j v hj => ?_) h
   rw [cell_of_row w b (off + j) vs _ _ h2]
   rw [List.getElem?_take] at hj
   split at hj
   ·simpa using hj
   ·cases hj
  ·rename_i ty m ds F hl
   split at h
   case h_2 => exact h.elim
   rename_i xs hxs
   rcases hs.objs i _ hl with ⟨h1, _⟩ | ⟨b', vs, hd, junk, G, lh, h1, h2, hlh, h3, h4, h5, h6, h7⟩
   ·rw [hb] at h1; cases h1
   rw [hb] at h1; injection h1 with h1; subst h1
   have hrow : RowF w b 0 ds G := h4.row fun j v hj => by
    rw [cell_of_row w b (0 + j) vs _ _ h2]
    have : vs.toList[j]? = some v := by rw [h3, List.getElem?_append_left (List.getElem?_eq_some_iff.1 hj).1]; exact hj
    simpa using this
   by_cases hle : off ≤ ds.length
   ·obtain ⟨G', h8, h9⟩ := dropRow off hrow hle
    obtain ⟨us, h10, h11⟩ := row_cells (P := P) (β := β) (ok := okB w0 ok0 L β) h8 (fun x hx => h5 x (h9 x hx)) hxs
    exact load_cells ho hx rfl h10 (fun j v hj => by have := h11 j v hj; rwa [Nat.zero_add] at this) h
   ·have hd0 : ds.drop off = [] := List.drop_eq_nil_of_le (by omega)
    rw [hd0] at hxs
    obtain ⟨r, h8, h9⟩ := takeD_spec hxs
    have hx0 : xs = [] := by cases xs with | nil => rfl | cons _ _ => cases h8
    subst hx0
    exact load_cells ho hx rfl (cs := []) (vs := []) trivial (fun j v hj => by simp at hj) h
  ·exact h.elim
 ·rename_i ds hev
  rw [hev] at hx
  obtain ⟨b, off, G, hx, h1, h2, h3, h4⟩ := hx
  split at h
  case h_2 => exact h.elim
  rename_i xs hxs
  obtain ⟨us, h10, h11⟩ := row_cells (P := P) (β := β) (ok := okB w0 ok0 L β) h1 h4 hxs
  exact load_cells ho hx rfl h10 h11 h
 ·exact h.elim
theorem yv_put {o : Oper} {x : S} {v : Value} {ok : Nat → Prop} (hr : ∀ w', Sw o w w' → (execOp a.eval o).run P w' = .ok (.value v) w') (hv : RelS P w β ok x v)
 (h : K (put n f o.dst x) L p) : Yv P n o a w β ok f L p K := ⟨x, v, hr, hv, h⟩
theorem yv_pure {o : Oper} {s : Sem Value} {ok : Nat → Prop} (hr : ∀ w, (execOp a.eval o).run P w = ((do pure (Next.value (← s)) : Sem Next).run P w))
 (h : dPure P n o.dst s K f L p) : Yv P n o a w β ok f L p K := by
 obtain ⟨v, hv, hk1, hk⟩ := h
 exact yv_put (fun w' _ => by rw [hr]; exact run_v (hv w')) (x := .c (.v v)) ⟨rfl, hk1⟩ hk
theorem fieldAddr_yv {o : Oper} {T k : Nat} {x : Operand} (ho : o.op = .fieldAddr T x k) (hok : okOper o = true) (hs : Sim P n w0 ok0 own0 β f L p a w)
 (h : dOp CT P n o K f L p) : Yv P n o a w β (okB w0 ok0 L β) f L p K := by
 have hx := ev_rel hs (x := x) (by simp [okOper, Op.operands, ho] at hok; exact hok)
 simp only [dOp, ho] at h
 split at h
 ·rename_i q i off hq hev
  rw [hev] at hx
  obtain ⟨b, hb, hx⟩ := hx
  refine yv_put (v := .pointer (some ⟨b, off + q, none⟩)) (fun w' _ => ?_) (x := .c (.p i (off + q))) ⟨b, hb, rfl⟩ h
  have := fieldOff_spec hq ⟨b, off, none⟩ w'
  simp only [execOp, ho, hx]
  rw [add_lit0] at this
  exact run_v this
 ·rename_i q ds hq hev
  rw [hev] at hx
  obtain ⟨b, off, G, hx, h1, h2, h3, h4⟩ := hx
  have hrun : ∀ w', (execOp a.eval o).run P w' = .ok (.value (.pointer (some ⟨b, off + q, none⟩))) w' := fun w' => by
   have := fieldOff_spec hq ⟨b, off, none⟩ w'
   simp only [execOp, ho, hx]
   rw [add_lit0] at this
   exact run_v this
  by_cases hle : q ≤ ds.length
  ·obtain ⟨G', h8, h9⟩ := dropRow q h1 hle
   exact yv_put (fun w' _ => hrun w') (x := .c (.q (ds.drop q))) ⟨b, off + q, G', rfl, h8, h2, h3, fun x hx => h4 x (h9 x hx)⟩ h
  ·have hd0 : ds.drop q = [] := List.drop_eq_nil_of_le (by omega)
   exact yv_put (fun w' _ => hrun w') (x := .c (.q (ds.drop q))) ⟨b, off + q, [], rfl, by rw [hd0]; rfl, h2, h3, fun x hx => by cases hx⟩ h
 ·exact h.elim
theorem indexAddr_yv {o : Oper} {T : Nat} {x i : Operand} (ho : o.op = .indexAddr T x i) (hok : okOper o = true) (hs : Sim P n w0 ok0 own0 β f L p a w)
 (h : dIndexAddr P n o.dst T (ev f x) (ev f i) K f L p) : Yv P n o a w β (okB w0 ok0 L β) f L p K := by
 simp only [okOper, Op.operands, ho, List.all_cons, List.all_nil, Bool.and_true, Bool.and_eq_true] at hok
 have hx := ev_rel hs (x := x) hok.1
 have hi := ev_rel hs (x := i) hok.2
 unfold dIndexAddr at h
 split at h
 case h_2 => exact h.elim
 rename_i kk k hei
 split at h
 case h_2 => exact h.elim
 rename_i e sz by' hel
 rw [hei] at hi
 obtain ⟨hi, _⟩ := hi
 obtain ⟨hu, inf, hinf, hsz, _⟩ := Go.Vc.elemS_spec hel
 have hrun : ∀ (ad : Addr) (ln cp : Nat) w', a.eval x = .slice (some ad) ln cp → 0 ≤ k → k < ln → (execOp a.eval o).run P w' = .ok (.value (.pointer (some (ad.add (k.toNat * sz))))) w' := by
  intro ad ln cp w' he h0 h1
  simp [execOp, ho, Instr.indexAt, hi, asIntOf, underlying_run hu, he, h0, h1, sizeOf, typeInfo, hinf, hsz]
 split at h
 ·rename_i j ln hev
  rw [hev] at hx
  obtain ⟨h0, h1, h⟩ := h
  have hx : OwnS P w (β j) ln (a.eval x) := hx
  cases hb : β j with
  | none => rw [hb] at hx; obtain ⟨rfl, _⟩ := hx; omega
  | some b =>
   rw [hb] at hx
   obtain ⟨cap, cs, ty, lh, h2, _⟩ := hx
   have := hrun ⟨b, 0, none⟩ ln cap
   exact yv_put (v := .pointer (some ⟨b, k.toNat * sz, none⟩)) (fun w' _ => by have := hrun _ _ _ w' h2 h0 h1; rwa [add_lit0, Nat.zero_add] at this) (x := .c (.p j (k.toNat * sz))) ⟨b, hb, rfl⟩ h
 ·rename_i ln ds F hev
  rw [hev] at hx
  obtain ⟨h0, h1, ds', hd1, hd2, h⟩ := h
  obtain ⟨G, ⟨ad, cap, h2, h3, h4, h5, h6⟩, h7, _⟩ := hx
  rcases h6 with ⟨rfl, _⟩ | ⟨hne, b, off, F', rfl, h8, rfl⟩
  ·exact absurd (by rw [← hd1]; simp) hd2
  ·have hle : k.toNat * sz ≤ ds.length := by
    by_cases hh : k.toNat * sz ≤ ds.length
    ·exact hh
    ·exact absurd (by rw [← hd1]; exact List.drop_eq_nil_of_le (by omega)) hd2
   obtain ⟨G', h9, h10⟩ := dropRow (k.toNat * sz) h8 hle
   rw [hd1] at h9
   have hvis : vis w b := by
    cases ds with
    | nil => exact absurd rfl hne
    | cons d r => obtain ⟨v, _, _, h11, _⟩ := h8; exact vis_of_cell h11
   refine yv_put (v := .pointer (some ⟨b, off + k.toNat * sz, none⟩)) (fun w' _ => by have := hrun _ _ _ w' h2 h0 h1; rwa [add_lit0] at this) (x := .c (.q ds')) ⟨b, off + k.toNat * sz, G', rfl, h9, hvis, h7 b (by simp), fun x hx => h7 x (by simp [h10 x hx])⟩ h
 ·exact h.elim
end
end Go.Dv
namespace Go.Dv
open Go Go.RowKit
open Go.Vc (vis vis_of_cell CellF RowF ValsF D inN okV tyS TS sizeTS elemS fieldOff zeroC placesS lenK zerosOf convBS splice guardSlot Stay lodO Sw add_lit0 run_v zeroC_run underlying_run len_run conv_run arr1 arr2 map1 map2 run_mapM_places)
variable [Out]
section
variable {P : Program} {n : Nat} {w0 : World} {ok0 own0 : Nat → Prop} {β : Nat → Option Nat} {f : Rg} {L : Ob} {p : Po} {a : Act} {w : World}
 {K : K0} {Ka : Act → World → Prop} {Q : Exit → Act → World → Prop} {CT : CallT}
theorem cellsOf_rel {ok : Nat → Prop} {x : S} {v : Value} {cs : List C} (h : RelS P w β ok x v) (hc : cellsOf? x = some cs) : RelL P w β ok cs v.cells.toList := by
 cases x with
 | tu xs => simp [cellsOf?] at hc
 | ag cs' =>
  simp [cellsOf?] at hc; subst hc
  obtain ⟨vs, rfl, h⟩ := h
  simpa [Value.cells] using h
 | c x =>
  have one : ∀ {y : Value}, RelC P w β ok x v → Go.Vc.oneCell v = true → RelL P w β ok [x] v.cells.toList := by
   intro _ hr ho
   have : v.cells = #[v] := by cases v <;> simp_all [Go.Vc.oneCell, Value.cells]
   rw [this]; exact ⟨hr, trivial⟩
  have h : RelC P w β ok x v := h
  cases x with
  | dead => simp [cellsOf?] at hc
  | self => simp [cellsOf?] at hc; subst hc; refine one (y := v) h ?_; rcases h with rfl | ⟨b, rfl⟩ <;> rfl
  | v x =>
   simp [cellsOf?] at hc; subst hc
   refine one (y := v) h ?_
   obtain ⟨rfl, hk⟩ := h
   cases v <;> simp_all [Go.Vc.oneCell, okV]
  | sl m ds F => simp [cellsOf?] at hc; subst hc; refine one (y := v) h ?_; obtain ⟨G, ⟨a, cap, rfl, _⟩, _⟩ := h; rfl
  | p i off => simp [cellsOf?] at hc; subst hc; refine one (y := v) h ?_; obtain ⟨b, _, rfl⟩ := h; rfl
  | q ds => simp [cellsOf?] at hc; subst hc; refine one (y := v) h ?_; obtain ⟨b, o, G, rfl, _⟩ := h; rfl
  | fn g fs cs => simp [cellsOf?] at hc; subst hc; refine one (y := v) h ?_; obtain ⟨a, b, rfl, _⟩ := h; rfl
  | ow ty m ds F => exact h.elim
  | s i m =>
   simp [cellsOf?] at hc; subst hc
   refine one (y := v) h ?_
   have h : OwnS P w (β i) m v := h
   cases hb : β i with
   | none => rw [hb] at h; obtain ⟨_, rfl⟩ := h; rfl
   | some b => rw [hb] at h; obtain ⟨cap, cs, ty, lh, rfl, _⟩ := h; rfl
theorem fillC_rel {ok : Nat → Prop} : ∀ (ps : List (Nat × Operand)) {cs : List C} {arr : Array Value} {pl : List (Nat × Nat)} {place : Nat → Option (Nat × Nat)} {out : List C}, (∀ i, place i = pl[i]?) →
 (∀ q ∈ ps, RelS P w β ok (ev f q.2) (a.eval q.2)) → RelL P w β ok cs arr.toList → fillC pl cs (parts f ps) = some out →
 ∃ arr', Instr.fill place arr (ps.map fun p => (p.1, a.eval p.2)) = some arr' ∧ RelL P w β ok out arr'.toList
 | [], cs, arr, pl, place, out, _, _, hr, h => by
  simp [parts, fillC] at h; subst h
  exact ⟨arr, rfl, hr⟩
 | (i, x) :: r, cs, arr, pl, place, out, hp, hx, hr, h => by
  simp only [parts, List.map_cons, fillC] at h
  split at h
  case h_2 => cases h
  rename_i off size ys hpl hys
  split at h
  case isFalse => cases h
  rename_i hcond
  have hy := cellsOf_rel (hx (i, x) (by simp)) hys
  have hylen : ys.length = (a.eval x).cells.size := by simpa using hy.length
  have hcl : cs.length = arr.size := by simpa using hr.length
  have hfold : ((a.eval x).cells.zipIdx.foldl (fun cs (p : Value × Nat) => cs.setIfInBounds (off + p.2) p.1) arr).toList = arr.toList.take off ++ (a.eval x).cells.toList ++ arr.toList.drop (off + (a.eval x).cells.toList.length) := by
   have := Go.Vc.fold_splice (a.eval x).cells.toList 0 arr off (by simp; omega)
   simp only [Nat.add_zero] at this
   rw [← this]
   rw [← Array.foldl_toList, Array.toList_zipIdx]
  obtain ⟨arr', h1, h2⟩ := fillC_rel r (arr := (a.eval x).cells.zipIdx.foldl (fun cs (p : Value × Nat) => cs.setIfInBounds (off + p.2) p.1) arr) hp (fun q hq => hx q (by simp [hq])) (by rw [hfold]; exact hr.splice hy) h
  refine ⟨arr', ?_, h2⟩
  simp only [List.map_cons, Instr.fill, hp, hpl]
  rw [if_neg (by simp; omega)]
  exact h1
theorem parts_ok {o : Oper} {ps : Array (Nat × Operand)} (hs : Sim P n w0 ok0 own0 β f L p a w) (hok : ((ps.toList.map (·.2)).all okOpd) = true) : ∀ q ∈ ps.toList, RelS P w β (okB w0 ok0 L β) (ev f q.2) (a.eval q.2) := fun q hq =>
 ev_rel hs (List.all_eq_true.1 hok q.2 (List.mem_map.2 ⟨q, hq, rfl⟩))
theorem build_yv {o : Oper} {t : TypeId} {ps : Array (Nat × Operand)} (ho : o.op = .build t ps) (hok : okOper o = true) (hs : Sim P n w0 ok0 own0 β f L p a w)
 (h : dOp CT P n o K f L p) : Yv P n o a w β (okB w0 ok0 L β) f L p K := by
 simp only [dOp, ho] at h
 split at h
 case h_2 => exact h.elim
 rename_i z pl hz hpl
 split at h
 case h_2 => exact h.elim
 rename_i cs hcs
 obtain ⟨hz, hzok⟩ := zeroD_spec hz
 have hzz := fun w => zeroC_run (P := P) hz w
 unfold placesS at hpl
 split at hpl
 case h_2 => cases hpl
 rename_i fs hfs
 have hrp := fun w => run_mapM_places (P := P) fs.toList pl w hpl
 obtain ⟨v, hv0, hc⟩ := hzz w
 have hv : ∀ w', (zeroValue t).run P w' = .ok v w' := fun w' => by
  obtain ⟨v', hv', hc'⟩ := hzz w'
  simp only [zeroValue, typeInfo, Sem.run_bind, run_program, Result.andThen_ok] at hv0 hv' ⊢
  cases hi : P.info? t with
  | none => simp [hi] at hv0
  | some i =>
   cases hzi : i.zero with
   | none => simp [hi, hzi] at hv0
   | some q => simp [hi, hzi] at hv0 ⊢; exact hv0
 have hzc : RelL P w β (okB w0 ok0 L β) (z.map .v) v.cells.toList := by rw [hc]; exact RelL.vals _ hzok
 obtain ⟨arr, h1, h2⟩ := fillC_rel (a := a) (f := f) ps.toList (arr := v.cells) (place := (pl.toArray[·]?)) (fun i => by simp) (parts_ok (o := o) hs (by simpa [okOper, Op.operands, ho] using hok)) hzc hcs
 have hrun : ∀ w', (execOp a.eval o).run P w' = .ok (.value (.agg arr)) w' := by
  intro w'
  have hm : (fs.mapM (fun f => do pure (f.offset, ← sizeOf f.type) : Field → Sem (Nat × Nat))).run P w' = .ok pl.toArray w' := by
   rw [← Array.toArray_toList (xs := fs), List.mapM_toArray]
   simp only [Sem.run_map, hrp, Result.andThen_ok]
  have hpt : (ps.map fun (x : Nat × Operand) => (x.1, a.eval x.2)).toList = ps.toList.map fun p => (p.1, a.eval p.2) := by simp
  simp only [execOp, ho, Instr.build, Sem.run_bind, hv, Result.andThen_ok, underlying_run hfs, hm, hpt, h1]
  rfl
 have : arr = arr.toList.toArray := by simp
 rw [this] at hrun
 exact yv_put (fun w' _ => hrun w') (x := .ag cs) ⟨_, rfl, h2⟩ h
theorem vals_rel {ok : Nat → Prop} : ∀ {cs : List C} {vs ws : List Value}, vals? cs = some vs → RelL P w β ok cs ws → ws = vs
 | [], vs, [], h, _ => by simpa [vals?] using h
 | [], _, _ :: _, _, h => h.elim
 | .v x :: r, vs, y :: t, h, k => by
  simp only [vals?] at h
  cases hr : vals? r with
  | none => simp [hr] at h
  | some q =>
   simp only [hr, Option.some.injEq] at h
   rw [← h, vals_rel hr k.2, k.1.1]
 | .v x :: r, vs, [], h, k => k.elim
 | .sl .. :: _, _, _, h, _ => by simp [vals?] at h
 | .p .. :: _, _, _, h, _ => by simp [vals?] at h
 | .s .. :: _, _, _, h, _ => by simp [vals?] at h
 | .q .. :: _, _, _, h, _ => by simp [vals?] at h
 | .fn .. :: _, _, _, h, _ => by simp [vals?] at h
 | .ow .. :: _, _, _, h, _ => by simp [vals?] at h
 | .dead :: _, _, _, h, _ => by simp [vals?] at h
theorem plain_rel {ok : Nat → Prop} {x : S} {y v : Value} (h : plain? x = some v) (hr : RelS P w β ok x y) : y = v := by
 cases x with
 | tu xs => simp [plain?] at h
 | ag cs =>
  simp only [plain?] at h
  cases hv : vals? cs with
  | none => simp [hv] at h
  | some vs =>
   simp only [hv, Option.some.injEq] at h
   obtain ⟨ws, rfl, hr⟩ := hr
   rw [vals_rel hv hr, h]
 | c x =>
  cases x <;> simp [plain?] at h
  subst h; exact hr.1
theorem comp_rel {ok : Nat → Prop} {x s : S} {i : Nat} (h : comp? x i = some s) {y : Value} (hr : RelS P w β ok x y) : ∃ ys v, y = .tuple (ys : List Value).toArray ∧ ys[i]? = some v ∧ RelS P w β ok s v := by
 cases x with
 | c x => simp [comp?] at h
 | ag cs => simp [comp?] at h
 | tu xs =>
  obtain ⟨ys, rfl, hr⟩ := hr
  simp only [comp?] at h
  have get : ∀ {xs : List (List C × Bool)} {ys : List Value} {i : Nat} {c : List C × Bool}, RelT P w β ok xs ys → xs[i]? = some c → ∃ v, ys[i]? = some v ∧ RelT1 P w β ok c v := by
   intro xs
   induction xs with
   | nil => intro ys i c _ hc; simp at hc
   | cons x r ih =>
    intro ys i c hr hc
    cases ys with
    | nil => exact hr.elim
    | cons y t =>
     cases i with
     | zero => simp at hc; subst hc; exact ⟨y, rfl, hr.1⟩
     | succ i => simpa using ih hr.2 (by simpa using hc)
  split at h
  ·rename_i c hc
   simp at h; subst h
   obtain ⟨v, h1, h2⟩ := get hr hc
   refine ⟨ys, v, rfl, h1, ?_⟩
   simp only [RelT1, if_true] at h2
   exact h2.1
  ·rename_i cs hc
   simp at h; subst h
   obtain ⟨v, h1, h2⟩ := get hr hc
   refine ⟨ys, v, rfl, h1, ?_⟩
   simp only [RelT1, Bool.false_eq_true, if_false] at h2
   exact h2
  ·cases h
def takeO (o : Oper) : Bool :=
 match o.op with
 | .move _ | .assign _ | .pick .. | .load .. | .fieldAddr .. | .indexAddr .. | .binOp .. | .unOp .. | .convert .. | .extract .. | .index .. | .nilCheck _ | .build .. | .makeFunc .. | .slice .. => true
 | .call c => (match c.callee with | .builtin .len | .builtin .max | .builtin .min => true | _ => false)
 | _ => false
theorem ptrIds_rel {ok : Nat → Prop} : ∀ {xs : List Operand} {is : List Nat}, ptrIds (xs.map (ev f)) = some is → (∀ x ∈ xs, RelS P w β ok (ev f x) (a.eval x)) → Ptrs β is (xs.map a.eval)
 | [], is, h, _ => by simp [ptrIds] at h; subst h; trivial
 | x :: r, is, h, hx => by
  have h0 := hx x (by simp)
  simp only [List.map_cons] at h
  cases he : ev f x with
  | ag cs => simp [ptrIds, he] at h
  | tu cs => simp [ptrIds, he] at h
  | c c =>
   cases c with
   | p i off =>
    cases off with
    | zero =>
     simp only [he, ptrIds] at h
     cases hr : ptrIds (r.map (ev f)) with
     | none => simp [hr] at h
     | some js =>
      simp only [hr, Option.some.injEq] at h; subst h
      rw [he] at h0
      exact ⟨h0, ptrIds_rel hr fun y hy => hx y (by simp [hy])⟩
    | succ k => simp [ptrIds, he] at h
   | _ => simp [ptrIds, he] at h
theorem conv_yv {o : Oper} {s t : TypeId} {x : Operand} (ho : o.op = .convert s t x) (hok : okOper o = true) (hs : Sim P n w0 ok0 own0 β f L p a w)
 (h : dConv P n o.dst s t (ev f x) K f L p) : Yv P n o a w β (okB w0 ok0 L β) f L p K := by
 have hx := ev_rel hs (x := x) (by simpa [okOper, Op.operands, ho] using hok)
 have hlod : lodO o = true := by simp [lodO, ho]
 have go : ∀ {ad : Addr} {ln cap : Nat} {ds : List D} {vs : List Value} {G : List Nat}, a.eval x = .slice (some ad) ln cap → ad.spot = none → ValsF w ds vs G → (∀ j v, vs[j]? = some v → w.cell? ⟨ad.block, ad.off + j, none⟩ = some v) →
  dConvB P n o.dst s t ln ds K f L p → Yv P n o a w β (okB w0 ok0 L β) f L p K := by
  intro ad ln cap ds vs G he hsp hv hcell hc
  obtain ⟨b, off, sp⟩ := ad
  have hsp : sp = none := hsp
  subst hsp
  obtain ⟨hcb, hml, bs, hbl, rfl, hk⟩ := hc
  have hget : ∀ {bs : List UInt8} {vs : List Value} {G : List Nat}, ValsF w (bytesD bs) vs G → ∀ (j : Nat) (b : UInt8), bs[j]? = some b → vs[j]? = some (Value.int .u8 (b.toNat : Int)) := by
   intro bs
   induction bs with
   | nil => intro vs G _ j b hj; simp at hj
   | cons c r ih =>
    intro vs G hv j b hj
    cases vs with
    | nil => exact hv.elim
    | cons v t =>
     obtain ⟨F1, F2, h1, h2, _⟩ := hv
     cases j with
     | zero => simp at hj; subst hj; obtain ⟨rfl, _⟩ := h1; rfl
     | succ j => simpa using ih h2 j b (by simpa using hj)
  refine yv_put (fun w' hw => conv_run ho hcb he hbl fun j b hj => (hw hlod).cell ?_) (x := .c (.v _)) ⟨rfl, ?_⟩ hk
  ·rw [add_lit0]; exact hcell j _ (hget hv j b hj)
  ·show ByteArray.size ⟨bs.toArray⟩ ≤ maxLen
   simp only [ByteArray.size, List.size_toArray]; omega
 have none' : ∀ {ad : Option Addr} {ln cap : Nat}, a.eval x = .slice ad ln cap → dConvB P n o.dst s t ln [] K f L p → Yv P n o a w β (okB w0 ok0 L β) f L p K := by
  intro ad ln cap he hc
  obtain ⟨hcb, hml, bs, hbl, hbs, hk⟩ := hc
  have : bs = [] := by cases bs with | nil => rfl | cons _ _ => simp [bytesD] at hbs
  subst this
  have hln : ln = 0 := hbl.symm
  subst hln
  refine yv_put (fun w' hw => ?_) (x := .c (.v (.string ⟨([] : List UInt8).toArray⟩))) ⟨rfl, Nat.zero_le _⟩ hk
  cases ad with
  | some ad => exact conv_run ho hcb he rfl (by simp)
  | none =>
   obtain ⟨e, h1, h2, h3⟩ := Go.Vc.convBS_spec hcb
   simp [execOp, ho, he, convert, run_underlying h1, run_underlying h2, run_underlying h3, Conv.bytesToString]
   rfl
 unfold dConv at h
 split at h
 ·rename_i ln ds F hev
  rw [hev] at hx
  obtain ⟨G, ⟨ad, cap, h1, h2, h3, h4, h5⟩, _, _⟩ := hx
  rcases h5 with ⟨rfl, _⟩ | ⟨hne, b, off, F', rfl, h8, rfl⟩
  ·exact none' h1 h
  ·obtain ⟨vs, h9, h10⟩ := h8.vals
   exact go h1 rfl h10 h9 h
 ·rename_i i ln hev
  rw [hev] at hx
  split at h
  case h_2 => exact h.elim
  rename_i ty m ds F hl
  obtain ⟨rfl, h⟩ := h
  have hx : OwnS P w (β i) m (a.eval x) := hx
  rcases hs.objs i _ hl with ⟨h1, h2, rfl⟩ | ⟨b', vs, hd, junk, G, lh, h1, h2, hlh, h3, h4, h5, h6, h7⟩
  ·rw [h1] at hx
   exact none' (cap := 0) (by rw [hx.2, h2]) h
  ·rw [h1] at hx
   obtain ⟨cap, cs, ty', lh, h8, _⟩ := hx
   refine go h8 rfl h4 (fun j v hj => ?_) h
   rw [cell_of_row w b' (0 + j) vs _ _ h2]
   have : vs.toList[j]? = some v := by rw [h3, List.getElem?_append_left (List.getElem?_eq_some_iff.1 hj).1]; exact hj
   simpa using this
 ·rename_i va h1
  rw [h1] at hx
  obtain ⟨hx, _⟩ := hx
  exact yv_pure (fun w => by simp [execOp, ho, hx]) h
 ·exact h.elim
theorem takeRow {b : Nat} : ∀ {ds : List D} {o : Nat} {G : List Nat} (k : Nat), RowF w b o ds G → ∃ G', RowF w b o (ds.take k) G' ∧ ∀ x ∈ G', x ∈ G
 | ds, o, G, 0, _ => ⟨[], by simp [RowF], (fun x hx => by cases hx)⟩
 | [], o, G, k + 1, h => ⟨G, h, fun x hx => hx⟩
 | d :: ds, o, G, k + 1, ⟨v, F1, F2, h1, h2, h3, h4⟩ => by
  obtain ⟨G', h5, h6⟩ := takeRow k h3
  refine ⟨F1 ++ G', ⟨v, F1, G', h1, h2, h5, rfl⟩, fun x hx => ?_⟩
  rw [h4]
  rcases List.mem_append.1 hx with hx | hx
  ·exact List.mem_append_left _ hx
  ·exact List.mem_append_right _ (h6 x hx)
theorem two_of {α β : Type} {g : α → β} {l : List α} {x y : β} (h : l.map g = [x, y]) : ∃ a b, l = [a, b] ∧ x = g a ∧ y = g b := by
 match l, h with
 | [a, b], h => simp at h; exact ⟨a, b, rfl, h.1.symm, h.2.symm⟩
theorem take_yv {o : Oper} (hok : okOper o = true) (hs : Sim P n w0 ok0 own0 β f L p a w) (h : dOp CT P n o K f L p) (ht : takeO o = true) : Yv P n o a w β (okB w0 ok0 L β) f L p K := by
 have hok' := hok
 cases ho : o.op <;> simp only [takeO, ho, Bool.false_eq_true] at ht <;> simp only [okOper, Op.operands, ho, List.all_cons, List.all_nil, Bool.and_true, Bool.and_eq_true] at hok'
 case move x =>
  simp only [dOp, ho] at h
  exact yv_put (fun w' _ => by simp [execOp, ho]) (ev_rel hs hok') h
 case assign x =>
  simp only [dOp, ho] at h
  exact yv_put (fun w' _ => by simp [execOp, ho]) (ev_rel hs hok') h
 case pick c x y =>
  simp only [dOp, ho] at h
  have hc := ev_rel hs hok'.1
  split at h
  ·rename_i t hev
   rw [hev] at hc
   obtain ⟨hc, _⟩ := hc
   cases t with
   | true => exact yv_put (fun w' _ => by simp [execOp, ho, hc, asBool]) (ev_rel hs hok'.2.1) (h.1 rfl)
   | false => exact yv_put (fun w' _ => by simp [execOp, ho, hc, asBool]) (ev_rel hs hok'.2.2) (h.2 rfl)
  ·exact h.elim
 case build t ps => exact build_yv ho hok hs h
 case load t x => simp only [dOp, ho] at h; exact load_yv ho hok hs h
 case fieldAddr T x k => exact fieldAddr_yv ho hok hs h
 case indexAddr T x i => simp only [dOp, ho] at h; exact indexAddr_yv ho hok hs h
 case convert s t x => simp only [dOp, ho] at h; exact conv_yv ho hok hs h
 case nilCheck x =>
  simp only [dOp, ho] at h
  have hx := ev_rel hs hok'
  split at h
  ·rename_i i off hev
   rw [hev] at hx
   obtain ⟨b, hb, hx⟩ := hx
   exact yv_put (v := .pointer (some ⟨b, off, none⟩)) (fun w' _ => by simp [execOp, ho, hx]) (x := .c (.p i off)) ⟨b, hb, rfl⟩ h
  ·rename_i ds hev
   rw [hev] at hx
   obtain ⟨b, off, G, hx, hr⟩ := hx
   exact yv_put (v := .pointer (some ⟨b, off, none⟩)) (fun w' _ => by simp [execOp, ho, hx]) (x := .c (.q ds)) ⟨b, off, G, rfl, hr⟩ h
  ·rename_i g fs cs hev
   rw [hev] at hx
   obtain ⟨va, vb, hx, hr⟩ := hx
   exact yv_put (v := .func (.func g) va.toArray vb.toArray) (fun w' _ => by simp [execOp, ho, hx]) (x := .c (.fn g fs cs)) ⟨va, vb, rfl, hr⟩ h
  ·exact h.elim
 case makeFunc fn first captured =>
  cases fn with
  | func g =>
   simp only [dOp, ho] at h
   split at h
   case h_2 => exact h.elim
   rename_i ia ib ha hb
   simp only [Array.toList_append, List.all_append, Bool.and_eq_true] at hok'
   have h1 := ptrIds_rel ha fun x hx => ev_rel hs (List.all_eq_true.1 hok'.1 x hx)
   have h2 := ptrIds_rel hb fun x hx => ev_rel hs (List.all_eq_true.1 hok'.2 x hx)
   refine yv_put (v := .func (.func g) (first.toList.map a.eval).toArray (captured.toList.map a.eval).toArray) (fun w' _ => ?_) (x := .c (.fn g ia ib)) ⟨_, _, rfl, h1, h2⟩ h
   simp [execOp, ho, Instr.makeFunc, ← Array.toList_map]
  | _ => simp only [dOp, ho] at h
 case call c =>
  split at ht
  case h_4 => cases ht
  case h_2 =>
   rename_i hg
   simp only [dOp, ho, hg] at h
   split at h
   case h_2 => exact h.elim
   rename_i sx sy hx
   obtain ⟨x, y, hxl, rfl, rfl⟩ := two_of hx
   split at h
   case h_2 => exact h.elim
   rename_i k va k' vb h1 h2
   have hall : c.args.toList.all okOpd = true := by
    have hc2 : c.operands.toList.all okOpd = true := hok'
    simpa [Call.operands, hg] using hc2
   rw [hxl] at hall
   simp only [List.all_cons, List.all_nil, Bool.and_true, Bool.and_eq_true] at hall
   have e1 := plain_rel h1 (ev_rel hs hall.1)
   have e2 := plain_rel h2 (ev_rel hs hall.2)
   have hargs : c.args = #[x, y] := by rw [← Array.toList_inj]; exact hxl
   exact yv_put (fun w' _ => by simp [execOp, ho, resolve, hg, hargs, invoke, builtin, e1, e2, Builtin.max_, Builtin.max2]) (v := .int k (if vb > va then vb else va)) (x := .c (.v (.int k (if vb > va then vb else va)))) ⟨rfl, trivial⟩ h
  case h_3 =>
   rename_i hg
   simp only [dOp, ho, hg] at h
   split at h
   case h_2 => exact h.elim
   rename_i sx sy hx
   obtain ⟨x, y, hxl, rfl, rfl⟩ := two_of hx
   split at h
   case h_2 => exact h.elim
   rename_i k va k' vb h1 h2
   have hall : c.args.toList.all okOpd = true := by
    have hc2 : c.operands.toList.all okOpd = true := hok'
    simpa [Call.operands, hg] using hc2
   rw [hxl] at hall
   simp only [List.all_cons, List.all_nil, Bool.and_true, Bool.and_eq_true] at hall
   have e1 := plain_rel h1 (ev_rel hs hall.1)
   have e2 := plain_rel h2 (ev_rel hs hall.2)
   have hargs : c.args = #[x, y] := by rw [← Array.toList_inj]; exact hxl
   exact yv_put (fun w' _ => by simp [execOp, ho, resolve, hg, hargs, invoke, builtin, e1, e2, Builtin.min_, Builtin.min2]) (v := .int k (if vb < va then vb else va)) (x := .c (.v (.int k (if vb < va then vb else va)))) ⟨rfl, trivial⟩ h
  rename_i hg
  simp only [dOp, ho, hg] at h
  split at h
  case h_2 => exact h.elim
  rename_i sx T hx hT
  obtain ⟨x, hxl, rfl⟩ := map1 hx
  have ha := arr1 hxl
  have ht := arr1 hT
  have hev := ev_rel hs (x := x) (by
   have hc2 : c.operands.toList.all okOpd = true := hok'
   have : x ∈ c.operands := by simp [Call.operands, hg, ha]
   exact List.all_eq_true.1 hc2 x (by simpa using this))
  have len1 : lenK P T = 1 → ∃ e, P.underlying T = some (.slice e) := fun hl => by
   unfold lenK at hl
   split at hl
   ·rename_i e he; exact ⟨e, he⟩
   ·cases hl
   ·cases hl
  have len2 : lenK P T = 2 → P.underlying T = some .string := fun hl => by
   unfold lenK at hl
   split at hl
   ·cases hl
   ·assumption
   ·cases hl
  unfold dLen at h
  split at h
  ·rename_i j ln he
   rw [he] at hev
   obtain ⟨hl, h⟩ := h
   have hev : OwnS P w (β j) ln (a.eval x) := hev
   cases hb : β j with
   | none =>
    rw [hb] at hev
    obtain ⟨rfl, hev2⟩ := hev
    exact yv_put (fun w' _ => len_run ho hg ha ht (.inl ⟨_, _, _, hev2, rfl, len1 hl⟩)) (x := .c (.v _)) ⟨rfl, trivial⟩ (h (by omega))
   | some b =>
    rw [hb] at hev
    obtain ⟨cap, cs, ty, lh, hev, hle1, hle2, _⟩ := hev
    exact yv_put (fun w' _ => len_run ho hg ha ht (.inl ⟨_, _, _, hev, rfl, len1 hl⟩)) (x := .c (.v _)) ⟨rfl, trivial⟩ (h (Nat.le_trans hle1 hle2))
  ·rename_i ln ds F he
   rw [he] at hev
   obtain ⟨hl, h⟩ := h
   obtain ⟨G, ⟨ad, cap, hev, hle1, hle2, _⟩, _⟩ := hev
   exact yv_put (fun w' _ => len_run ho hg ha ht (.inl ⟨_, _, _, hev, rfl, len1 hl⟩)) (x := .c (.v _)) ⟨rfl, trivial⟩ (h (Nat.le_trans hle1 hle2))
  ·rename_i he
   rw [he] at hev
   obtain ⟨hl, h⟩ := h
   exact yv_put (fun w' _ => len_run ho hg ha ht (.inl ⟨_, _, _, hev.1, rfl, len1 hl⟩)) (x := .c (.v _)) ⟨rfl, trivial⟩ h
  ·rename_i s he
   rw [he] at hev
   obtain ⟨hl, h⟩ := h
   exact yv_put (fun w' _ => len_run ho hg ha ht (.inr ⟨_, hev.1, rfl, len2 hl⟩)) (x := .c (.v _)) ⟨rfl, trivial⟩ (h hev.2)
  ·exact h.elim
 case binOp op t x y t' =>
  simp only [dOp, ho] at h
  have hx := ev_rel hs hok'.1
  have hy := ev_rel hs hok'.2
  split at h
  ·rename_i va vb h1 h2
   have hx := plain_rel h1 hx
   have hy := plain_rel h2 hy
   exact yv_pure (fun w => by simp [execOp, ho, hx, hy]) h
  ·exact h.elim
 case unOp op t x =>
  simp only [dOp, ho] at h
  have hx := ev_rel hs hok'
  split at h
  ·rename_i va h1
   rw [h1] at hx
   exact yv_pure (fun w => by simp [execOp, ho, hx.1]) h
  ·exact h.elim
 case extract x i =>
  simp only [dOp, ho] at h
  have hx := ev_rel hs hok'
  split at h
  ·rename_i s h1
   obtain ⟨ys, v, h2, h3, h4⟩ := comp_rel h1 hx
   refine yv_put (fun w' _ => ?_) h4 h
   simp [execOp, ho, h2, Instr.extract, h3]
  ·exact h.elim
 case index T x i =>
  simp only [dOp, ho] at h
  have hx := ev_rel hs hok'.1
  have hi := ev_rel hs hok'.2
  split at h
  ·rename_i va vb h1 h2
   rw [h1] at hx
   rw [h2] at hi
   exact yv_pure (fun w => by simp [execOp, ho, hx.1, hi.1]) h
  ·exact h.elim
 case slice T x lo hi mx =>
  simp only [dOp, ho] at h
  split at h
  case h_2 => exact h.elim
  rename_i l hh hl hh'
  simp only [Array.toList_append, List.all_append, Bool.and_eq_true, List.all_cons, List.all_nil] at hok'
  obtain ⟨⟨⟨⟨hxo, _⟩, hlo⟩, hhi⟩, _⟩ := hok'
  have opt : ∀ {y : Option Operand} {v : Option Value}, optV (y.map (ev f)) = some v → y.toArray.toList.all okOpd = true → y.map a.eval = v := by
   intro y v hy hyo
   cases y with
   | none => simp [optV] at hy; subst hy; rfl
   | some y =>
    have hr := ev_rel hs (x := y) (by simpa using hyo)
    simp only [Option.map_some] at hy ⊢
    unfold optV at hy
    split at hy
    ·rename_i e; cases e
    ·rename_i b e
     injection e with e; rw [e] at hr
     injection hy with hy; subst hy
     rw [hr.1]
    ·cases hy
  have e1 := opt hl hlo
  have e2 := opt hh' hhi
  have hx := ev_rel hs hxo
  unfold dSlice at h
  split at h
  ·rename_i s hev
   rw [hev] at hx
   exact yv_pure (fun w => by simp [execOp, ho, hx.1, e1, e2]) h
  ·rename_i ln ds F hev
   rw [hev] at hx
   unfold dCut at h
   split at h
   case h_2 => exact h.elim
   rename_i e sz by' lo' hi' hel hlb hhb
   obtain ⟨h0, h1, h2, h⟩ := h
   obtain ⟨G, ⟨ad, cap, hax, h3, h4, h5, h6⟩, h7, _⟩ := hx
   obtain ⟨hu, inf, hinf, hsz, _⟩ := Go.Vc.elemS_spec hel
   have hrun : ∀ w', (Instr.sliceAt T (.slice ad ln cap) l hh none).run P w' = .ok (sliced ad lo'.toNat hi'.toNat cap sz) w' := by
    intro w'
    have hel2 : P.elem T = e := by simp [Program.elem, hu]
    have ht : P.underlying T = some (.slice (P.elem T)) := by rw [hel2]; exact hu
    have hsz' : (sizeOf (P.elem T)).run P w' = .ok sz w' := by rw [hel2]; simp [sizeOf, typeInfo, hinf, hsz]
    rw [run_sliceAt_slice w' T _ _ _ _ ht]
    cases l with
    | none =>
     simp only [loB, Option.some.injEq] at hlb; subst hlb
     cases hh with
     | none =>
      simp only [hiB, Option.some.injEq] at hhb; subst hhb
      rw [run_slice_all w' T ad ln cap ht, hsz']; rfl
     | some b =>
      cases b <;> simp [hiB] at hhb
      subst hhb
      rw [run_slice_h w' T ad ln cap ht _ _ (by omega) (by omega), hsz']; rfl
    | some b =>
     cases b <;> simp [loB] at hlb
     subst hlb
     cases hh with
     | none =>
      simp only [hiB, Option.some.injEq] at hhb; subst hhb
      rw [run_slice_l w' T ad ln cap ht _ _ (by omega) (by omega), hsz']; rfl
     | some c =>
      cases c <;> simp [hiB] at hhb
      subst hhb
      rw [run_slice_lh w' T ad ln cap ht _ _ _ _ (by omega) (by omega) (by omega), hsz']; rfl
   have hsh : (hi' - lo').toNat = hi'.toNat - lo'.toNat := by omega
   refine yv_put (v := sliced ad lo'.toNat hi'.toNat cap sz) (fun w' _ => by simp [execOp, ho, hax, e1, e2, hrun]) (x := .c (.sl (hi' - lo').toNat ((ds.drop (lo'.toNat * sz)).take ((hi' - lo').toNat * sz)) none)) ?_ h
   generalize hds : (ds.drop (lo'.toNat * sz)).take ((hi' - lo').toNat * sz) = ds'
   by_cases hne : ds' = []
   ·refine ⟨[], ⟨_, cap - lo'.toNat, by rw [hsh]; rfl, by omega, by omega, fun e => ?_, .inl ⟨hne, rfl⟩⟩, (fun b hb => by cases hb), (fun _ e => by cases e)⟩
    split at e
    ·have := h5 e; omega
    ·cases ad with
     | none => have := h5 rfl; omega
     | some ad => simp at e
   ·rcases h6 with ⟨rfl, _⟩ | ⟨hdn, b, off, F', rfl, h8, rfl⟩
    ·simp at hds; first | exact absurd hds hne | exact absurd hds.symm hne
    ·have hle : lo'.toNat * sz ≤ ds.length := by
      by_cases hq : lo'.toNat * sz ≤ ds.length
      ·exact hq
      ·rw [List.drop_eq_nil_of_le (by omega)] at hds; simp at hds; first | exact absurd hds hne | exact absurd hds.symm hne
     have hlt : ¬ cap = lo'.toNat := fun e => by
      have : (hi' - lo').toNat = 0 := by omega
      rw [this] at hds; simp at hds; first | exact absurd hds hne | exact absurd hds.symm hne
     obtain ⟨G', h9, h10⟩ := dropRow (lo'.toNat * sz) h8 hle
     obtain ⟨G2, h11, h12⟩ := takeRow ((hi' - lo').toNat * sz) h9
     rw [hds] at h11
     refine ⟨b :: G2, ⟨some ⟨b, off + lo'.toNat * sz, none⟩, cap - lo'.toNat, ?_, by omega, by omega, (fun e => by cases e), .inr ⟨hne, b, off + lo'.toNat * sz, G2, rfl, h11, rfl⟩⟩, fun x hx => ?_, (fun _ e => by cases e)⟩
     ·simp only [sliced, if_neg hlt, Option.map_some, add_lit0, hsh]
     ·rcases List.mem_cons.1 hx with rfl | hx
      ·exact h7 x (by simp)
      ·exact h7 x (by simp [h10 x (h12 x hx)])
  ·exact h.elim
end
end Go.Dv
namespace Go.Dv
open Go Go.RowKit
open Go.Vc (vis vis_of_cell CellF RowF ValsF D inN okV tyS TS sizeTS elemS fieldOff zeroC placesS lenK zerosOf convBS splice guardSlot Stay lodO Sw add_lit0 run_v zeroC_run underlying_run arr1 arr2 map1 map2)
variable [Out]
section
variable {P : Program} {n : Nat} {w0 : World} {ok0 own0 : Nat → Prop} {β : Nat → Option Nat} {f : Rg} {L : Ob} {p : Po} {a : Act} {w : World}
 {K : K0} {Ka : Act → World → Prop} {Q : Exit → Act → World → Prop} {CT : CallT}
theorem joinF_spec {F G : Fp} {H : List (List Nat)} (h : joinF F G = some H) : ∃ a b, F = some a ∧ G = some b ∧ H = a ++ b := by
 cases F <;> cases G <;> simp_all [joinF]
theorem dOf_rel {ok : Nat → Prop} {x : C} {d : D} {F : Fp} (h : dOf x = some (d, F)) {v : Value} (hr : RelC P w β ok x v) : ∃ G, CellF w d v G ∧ (∀ b ∈ G, ok b) ∧ TlC w d v G F := by
 cases x with
 | sl m ds F' =>
  simp only [dOf, Option.some.injEq, Prod.mk.injEq] at h
  obtain ⟨rfl, rfl⟩ := h
  exact hr
 | v x =>
  obtain ⟨rfl, hk⟩ := hr
  unfold dOf at h
  split at h
  ·rename_i e; injection e with e; subst e
   simp only [Option.some.injEq, Prod.mk.injEq] at h
   obtain ⟨rfl, rfl⟩ := h
   exact ⟨[], ⟨none, 0, rfl, Nat.le_refl _, by simp [maxLen], fun _ => rfl, .inl ⟨rfl, rfl⟩⟩, (fun b hb => by cases hb), fun Fs e => ⟨Sb.nil _, none, 0, rfl, fun _ => rfl, .inl rfl⟩⟩
  ·cases h
  ·rename_i e; injection e with e; subst e
   simp only [Option.some.injEq, Prod.mk.injEq] at h
   obtain ⟨rfl, rfl⟩ := h
   exact ⟨[], ⟨rfl, rfl, hk⟩, (fun b hb => by cases hb), fun Fs e => ⟨Sb.nil _, trivial⟩⟩
  ·rename_i e; cases e
  ·cases h
 | _ => simp [dOf] at h
theorem dsOf_rel {ok : Nat → Prop} : ∀ {cs : List C} {ds : List D} {F : Fp}, dsOf cs = some (ds, F) → ∀ {vs : List Value}, RelL P w β ok cs vs → ∃ G, ValsF w ds vs G ∧ (∀ b ∈ G, ok b) ∧ TlL w ds vs G F
 | [], ds, F, h, [], _ => by
  simp only [dsOf, Option.some.injEq, Prod.mk.injEq] at h
  obtain ⟨rfl, rfl⟩ := h
  exact ⟨[], rfl, (fun b hb => by cases hb), fun Fs e => ⟨Sb.nil _, trivial⟩⟩
 | [], _, _, _, _ :: _, hr => hr.elim
 | x :: r, ds, F, h, [], hr => hr.elim
 | x :: r, ds, F, h, v :: vs, hr => by
  simp only [dsOf] at h
  cases hx : dOf x with
  | none => simp [hx] at h
  | some q =>
   obtain ⟨d, F1⟩ := q
   cases hr' : dsOf r with
   | none => simp [hx, hr'] at h
   | some q =>
    obtain ⟨es, F2⟩ := q
    simp only [hx, hr', Option.some.injEq, Prod.mk.injEq] at h
    obtain ⟨rfl, rfl⟩ := h
    obtain ⟨G1, h1, h2, h3⟩ := dOf_rel hx hr.1
    obtain ⟨G2, h4, h5, h6⟩ := dsOf_rel hr' hr.2
    refine ⟨G1 ++ G2, ⟨G1, G2, h1, h4, rfl⟩, fun b hb => (List.mem_append.1 hb).elim (h2 b) (h5 b), fun Fs e => ?_⟩
    obtain ⟨x1, x2, e1, e2, rfl⟩ := joinF_spec e
    rw [List.flatten_append]; exact ⟨(h3 x1 e1).1.append (h6 x2 e2).1, (h3 x1 e1).2, (h6 x2 e2).2⟩
theorem fC_rel {ok ok' : Nat → Prop} (h : ∀ b, ok b → ok' b) {i m : Nat} {x : C} (hx : ∀ y, OwnS P w (β i) m y → RelC P w β ok' x y) {c : C} {y : Value} (hr : RelC P w β ok c y) : RelC P w β ok' (fC i m x c) y := by
 have hm := RelC.okmono (P := P) (w := w) (β := β) h hr
 cases c with
 | p j o => simp only [fC]; split <;> first | trivial | exact hm
 | s j q =>
  simp only [fC]
  split
  ·rename_i e; subst e
   split
   ·rename_i e; subst e; exact hx y hr
   ·trivial
  ·exact hm
 | fn g a b =>
  simp only [fC]
  split
  ·trivial
  ·split <;> first | trivial | exact hm
 | v x => exact hm
 | sl n ds F => exact hm
 | q ds => exact hm
 | ow ty n ds F => exact hm
 | dead => trivial
 | self => exact hm
theorem fC_self {i m : Nat} {x y : C} (hx : x ≠ C.self) (h : fC i m x y = C.self) : y = C.self := by
 cases y <;> simp only [fC] at h <;> first | rfl | cases h | (split at h <;> first | cases h | (split at h <;> first | exact absurd h hx | cases h))
theorem fCs_self {i m : Nat} {x : C} (hx : x ≠ C.self) : ∀ {cs : List C} {k : Nat}, (fCs i m x cs)[k]? = some C.self → cs[k]? = some C.self
 | [], k, h => by simp [fCs] at h
 | y :: r, 0, h => by simp only [fCs, List.getElem?_cons_zero, Option.some.injEq] at h ⊢; exact fC_self hx h
 | y :: r, k + 1, h => by simp only [fCs, List.getElem?_cons_succ] at h ⊢; exact fCs_self hx h
theorem fCs_rel {ok ok' : Nat → Prop} (h : ∀ b, ok b → ok' b) {i m : Nat} {x : C} (hx : ∀ y, OwnS P w (β i) m y → RelC P w β ok' x y) : ∀ {cs : List C} {ys : List Value}, RelL P w β ok cs ys → RelL P w β ok' (fCs i m x cs) ys
 | [], [], _ => trivial
 | _ :: _, _ :: _, hr => ⟨fC_rel h hx hr.1, fCs_rel h hx hr.2⟩
 | [], _ :: _, hr => hr.elim
 | _ :: _, [], hr => hr.elim
theorem fTs_rel {ok ok' : Nat → Prop} (h : ∀ b, ok b → ok' b) {i m : Nat} {x : C} (hx : ∀ y, OwnS P w (β i) m y → RelC P w β ok' x y) : ∀ {cs : List (List C × Bool)} {ys : List Value}, RelT P w β ok cs ys → RelT P w β ok' (fTs i m x cs) ys
 | [], [], _ => trivial
 | (cs, b) :: _, _ :: _, hr => ⟨by
  obtain ⟨h1, _⟩ := hr
  simp only [RelT1] at h1 ⊢
  cases b with
  | true => exact fCs_rel h hx (by simpa using h1)
  | false =>
   simp only [Bool.false_eq_true, if_false] at h1 ⊢
   obtain ⟨vs, h2, h3⟩ := h1
   exact ⟨vs, h2, fCs_rel h hx h3⟩, fTs_rel h hx hr.2⟩
 | [], _ :: _, hr => hr.elim
 | _ :: _, [], hr => hr.elim
theorem fS_rel {ok ok' : Nat → Prop} (h : ∀ b, ok b → ok' b) {i m : Nat} {x : C} (hx : ∀ y, OwnS P w (β i) m y → RelC P w β ok' x y) {c : S} {y : Value} (hr : RelS P w β ok c y) : RelS P w β ok' (fS i m x c) y := by
 cases c with
 | c c => exact fC_rel h hx hr
 | ag cs => obtain ⟨vs, h1, h2⟩ := hr; exact ⟨vs, h1, fCs_rel h hx h2⟩
 | tu xs => obtain ⟨vs, h1, h2⟩ := hr; exact ⟨vs, h1, fTs_rel h hx h2⟩
theorem fO_rel {ok ok' : Nat → Prop} (h : ∀ b, ok b → ok' b) {i m : Nat} {x : C} (hxs : x ≠ C.self) (hx : ∀ y, OwnS P w (β i) m y → RelC P w β ok' x y) {j : Nat} {c : O} (hr : RelO P w β ok j c) : RelO P w β ok' j (fO i m x c) := by
 cases c with
 | str cs => obtain ⟨b, vs, ty, lh, h1, h2, hlh, hsf, h3⟩ := hr; exact ⟨b, vs, ty, lh, h1, h2, hlh, hsf.map fun k => fCs_self hxs, fCs_rel h hx h3⟩
 | arr ty m ds F =>
  rcases hr with h1 | ⟨b, vs, hd, junk, G, lh, h1, h2, hlh, h3, h4, h5, h6⟩
  ·exact .inl h1
  ·exact .inr ⟨b, vs, hd, junk, G, lh, h1, h2, hlh, h3, h4, fun x hx => h x (h5 x hx), h6⟩
theorem ownB_fL {i m : Nat} {x : C} {b : Nat} (h : ownB (fL i m x L) β b) : ownB L β b := by
 obtain ⟨j, o, h1, h2⟩ := h
 rw [look_fL] at h1
 split at h1
 ·cases h1
 ·cases hl : look L j with
  | none => simp [hl] at h1
  | some o' => exact ⟨j, o', hl, h2⟩
theorem frz_sound {i : Nat} {k : Nat → C → K0} (hs : Sim P n w0 ok0 own0 β f L p a w) (h : frz i k f L p) :
 ∃ m x f' L' p', k m x f' L' p' ∧ Sim P n w0 ok0 own0 β f' L' p' a w ∧ Tr L β w L' β w ∧ (∀ b, okB w0 ok0 L β b → okB w0 ok0 L' β b) ∧ (∀ y, OwnS P w (β i) m y → RelC P w β (okB w0 ok0 L' β) x y) := by
 unfold frz at h
 split at h
 case h_2 => exact h.elim
 rename_i ty m ds F hl
 have main : ∀ (x : C) (p' : Po), x ≠ C.self → (∀ L', (∀ b, okB w0 ok0 L β b → okB w0 ok0 L' β b) → (∀ b, β i = some b → okB w0 ok0 L' β b) → ∀ y, OwnS P w (β i) m y → RelC P w β (okB w0 ok0 L' β) x y) →
  (∀ ps, p' = some ps → ps.flatten.Nodup ∧ ∀ b ∈ ps.flatten, (w0.heap.size ≤ b ∨ own0 b) ∧ (∃ cs t lh, w.heap[b]? = some (.cells cs t lh) ∧ Lh cs.size lh) ∧ (¬ ownB L β b ∨ β i = some b)) →
  k m x (fR i m x f) (fL i m x L) p' →
  ∃ m x f' L' p', k m x f' L' p' ∧ Sim P n w0 ok0 own0 β f' L' p' a w ∧ Tr L β w L' β w ∧ (∀ b, okB w0 ok0 L β b → okB w0 ok0 L' β b) ∧ (∀ y, OwnS P w (β i) m y → RelC P w β (okB w0 ok0 L' β) x y) := by
  intro x p' hxs hx hp hk
  have hmono : ∀ b, okB w0 ok0 L β b → okB w0 ok0 (fL i m x L) β b := fun b hb => ⟨fun ho => hb.1 (ownB_fL ho), hb.2⟩
  have hnot : ∀ b, β i = some b → ¬ ownB (fL i m x L) β b := by
   rintro b hb ⟨j, o, h1, h2⟩
   rw [look_fL] at h1
   split at h1
   ·cases h1
   ·rename_i hji
    cases hlj : look L j with
    | none => simp [hlj] at h1
    | some o' => exact hji (hs.inj j i o' _ b hlj hl h2 hb)
  have hokb : ∀ b, β i = some b → okB w0 ok0 (fL i m x L) β b := fun b hb => ⟨hnot b hb, fun hlt => hs.sub.1 b (hs.old b ⟨i, _, hl, hb⟩ hlt)⟩
  have hx' := hx _ hmono hokb
  refine ⟨m, x, _, _, p', hk, ⟨hs.size, hs.defers, fun j => fS_rel hmono hx' (hs.slots j), fun j o hj => ?_, fun j j' o o' b hj hj' hb hb' => ?_, fun b ho hlt => hs.old b (ownB_fL ho) hlt, hs.sub, hs.frame, hs.wd, hs.outer, fun ps hps => ?_⟩,
   ⟨Nat.le_refl _, fun _ _ _ => rfl, fun b _ ho => ownB_fL ho, fun _ cs _ lh hc => ⟨cs, lh, hc, rfl⟩⟩, hmono, hx'⟩
  ·rw [look_fL] at hj
   split at hj
   ·cases hj
   ·cases hlj : look L j with
    | none => simp [hlj] at hj
    | some o' =>
     simp [hlj] at hj; subst hj
     exact fO_rel hmono hxs hx' (hs.objs j o' hlj)
  ·have aux : ∀ j o, look (fL i m x L) j = some o → ∃ o', look L j = some o' := by
    intro j o hj
    rw [look_fL] at hj
    split at hj
    ·cases hj
    ·cases hlj : look L j with
     | none => simp [hlj] at hj
     | some o' => exact ⟨o', rfl⟩
   obtain ⟨o1, h1⟩ := aux j o hj
   obtain ⟨o2, h2⟩ := aux j' o' hj'
   exact hs.inj j j' o1 o2 b h1 h2 hb hb'
  ·obtain ⟨h1, h2⟩ := hp ps hps
   refine ⟨h1, fun b hb => ?_⟩
   obtain ⟨h3, h4, h5⟩ := h2 b hb
   refine ⟨h3, h4, h5.elim (fun h5 ho => h5 (ownB_fL ho)) (hnot b)⟩
 have hpold : ∀ ps, p = some ps → ps.flatten.Nodup ∧ ∀ b ∈ ps.flatten, (w0.heap.size ≤ b ∨ own0 b) ∧ (∃ cs t lh, w.heap[b]? = some (.cells cs t lh) ∧ Lh cs.size lh) ∧ (¬ ownB L β b ∨ β i = some b) := fun ps hps => by
  obtain ⟨h1, h2⟩ := hs.pool ps hps
  exact ⟨h1, fun b hb => ⟨(h2 b hb).1, (h2 b hb).2.1, .inl (h2 b hb).2.2⟩⟩
 have read : ∃ G : List Nat, (∀ b ∈ G, β i = some b) ∧ G.Nodup ∧ ∀ L', (∀ b, okB w0 ok0 L β b → okB w0 ok0 L' β b) → (∀ b, β i = some b → okB w0 ok0 L' β b) → ∀ y, OwnS P w (β i) m y →
  ∃ H, CellF w (.sl m ds) y H ∧ (∀ b ∈ H, okB w0 ok0 L' β b) ∧ (∀ Fs, F = some Fs → Sb H (G ++ Fs.flatten) ∧ Wh w (.sl m ds) y) := by
  rcases hs.objs i _ hl with ⟨h1, h2, h3⟩ | ⟨b, vs, hd, junk, G, lh, h1, h2, hlh, h3, h4, h5, h6, h7⟩
  ·refine ⟨[], by simp, by simp, fun L' _ _ y hy => ?_⟩
   rw [h1] at hy
   obtain ⟨hm, rfl⟩ := hy
   subst h3; subst hm
   exact ⟨[], ⟨none, 0, rfl, Nat.le_refl _, by simp [maxLen], fun _ => rfl, .inl ⟨rfl, rfl⟩⟩, (fun b hb => by cases hb), fun Fs e => ⟨Sb.nil _, none, 0, rfl, fun _ => rfl, .inl rfl⟩⟩
  ·cases ds with
   | nil =>
    refine ⟨[], by simp, by simp, fun L' _ _ y hy => ?_⟩
    rw [h1] at hy
    obtain ⟨cap, cs, ty', lh', rfl, h8, h9, hb', hsz'⟩ := hy
    have : hd = [] := by have := h4.length; cases hd <;> simp_all
    subst this
    have h4 : G = [] := h4
    subst h4
    refine ⟨[], ⟨_, cap, rfl, h8, h9, (fun e => by cases e), .inl ⟨rfl, rfl⟩⟩, (fun b hb => by cases hb), fun Fs e => ⟨Sb.nil _, some ⟨b, 0, none⟩, cap, rfl, fun hm => ?_, .inl rfl⟩⟩
    obtain ⟨k1, i', k2, k3⟩ := h6.2 (by rw [e]; simp)
    have et : ty' = ty ∧ cs = vs := by rw [h2] at hb'; injection hb' with e; injection e with e1 e2 e3; exact ⟨e2.symm, e1.symm⟩
    obtain ⟨et1, et2⟩ := et
    subst et1 et2
    have h10 := hsz' i'.size (by rw [k2]; rfl)
    rw [k1 hm] at h10
    exact (Nat.mul_eq_zero.1 (Nat.le_zero.1 h10)).elim id fun h => absurd h (by omega)
   | cons d r =>
    refine ⟨[b], by simp [h1], by simp, fun L' hL1 hL2 y hy => ?_⟩
    rw [h1] at hy
    obtain ⟨cap, cs, ty', lh', rfl, h8, h9, hb', hsz'⟩ := hy
    have hcell : ∀ (j : Nat) v, hd[j]? = some v → w.cell? ⟨b, 0 + j, none⟩ = some v := fun j v hj => by
     rw [cell_of_row w b (0 + j) vs _ _ h2]
     have : vs.toList[j]? = some v := by rw [h3, List.getElem?_append_left (List.getElem?_eq_some_iff.1 hj).1]; exact hj
     simpa using this
    have hrow : RowF w b 0 (d :: r) G := h4.row hcell
    refine ⟨b :: G, ⟨_, cap, rfl, h8, h9, (fun e => by cases e), .inr ⟨by simp, b, 0, G, rfl, hrow, rfl⟩⟩, fun x hx => ?_, fun Fs e => ⟨(Sb.refl [b]).append (h6.1 Fs e).1, some ⟨b, 0, none⟩, cap, rfl, fun hm => ?_, .inr ?_⟩⟩
    rotate_left
    ·obtain ⟨k1, inf, hinf, _⟩ := h6.2 (by rw [e]; simp)
     have h7 := h7 inf.size (by rw [hinf]; rfl)
     rw [hm] at h7
     simp at h7
    ·obtain ⟨k1, inf, hinf, _⟩ := h6.2 (by rw [e]; simp)
     have et : ty' = ty := by rw [h2] at hb'; injection hb' with e; injection e with _ e; exact e.symm
     subst et
     exact ⟨b, cs, ty', lh', inf.size, rfl, hb', h7 _ (by rw [hinf]; rfl), hsz' _ (by rw [hinf]; rfl), WhR.cells hcell (h6.1 Fs e).2⟩
    rcases List.mem_cons.1 hx with rfl | hx
    ·exact hL2 x h1
    ·exact hL1 x (h5 x hx)
 obtain ⟨G, hG1, hG2, hG3⟩ := read
 have plain : k m (.sl m ds none) (fR i m (.sl m ds none) f) (fL i m (.sl m ds none) L) p → _ := fun h =>
  main _ _ (fun e => by cases e) (fun L' h1 h2 y hy => by obtain ⟨H, h3, h4, _⟩ := hG3 L' h1 h2 y hy; exact ⟨H, h3, h4, (fun _ e => by cases e)⟩) hpold h
 cases p with
 | none => exact plain h
 | some ps =>
  cases F with
  | none => exact plain h
  | some Fs =>
   refine main _ _ (fun e => by cases e) (fun L' h1 h2 y hy => ?_) (fun qs hqs => ?_) (h G)
   ·obtain ⟨H, h3, h4, h5⟩ := hG3 L' h1 h2 y hy
    exact ⟨H, h3, h4, fun Fs' e => by cases e; exact h5 Fs rfl⟩
   ·cases hqs
    obtain ⟨h1, h2⟩ := hs.pool ps rfl
    refine ⟨?_, fun b hb => ?_⟩
    ·rw [List.flatten_cons, List.nodup_append]
     refine ⟨hG2, h1, fun x hx y hy e => ?_⟩
     subst e
     exact (h2 x hy).2.2 ⟨i, _, hl, hG1 x hx⟩
    ·rw [List.flatten_cons, List.mem_append] at hb
     rcases hb with hb | hb
     ·have hbi := hG1 b hb
      obtain ⟨cs, t, lh, hc, hlh⟩ := (hs.objs i _ hl).there hbi
      refine ⟨?_, ⟨cs, t, lh, hc, hlh⟩, .inr hbi⟩
      by_cases hlt : b < w0.heap.size
      ·exact .inr (hs.old b ⟨i, _, hl, hbi⟩ hlt)
      ·exact .inl (by omega)
     ·exact ⟨(h2 b hb).1, (h2 b hb).2.1, .inl (h2 b hb).2.2⟩
theorem outC_sound {k : List C → K0} : ∀ (fuel : Nat) {cs : List C} {f : Rg} {L : Ob} {p : Po} {vs : List Value}, Sim P n w0 ok0 own0 β f L p a w → RelL P w β (okB w0 ok0 L β) cs vs → outC fuel cs k f L p →
 ∃ cs' f' L' p', k cs' f' L' p' ∧ Sim P n w0 ok0 own0 β f' L' p' a w ∧ Tr L β w L' β w ∧ RelL P w β (okB w0 ok0 L' β) cs' vs
 | 0, _, _, _, _, _, _, _, h => h.elim
 | fuel + 1, cs, f, L, p, vs, hs, hr, h => by
  cases hi : ownsC cs with
  | none => simp only [outC, hi] at h; exact ⟨cs, f, L, p, h, hs, Tr.refl _ _ _, hr⟩
  | some i =>
   simp only [outC, hi] at h
   obtain ⟨m, x, f', L', p', hk, hs', ht, hm, hx⟩ := frz_sound hs h
   obtain ⟨cs', f'', L'', p'', hk', hs'', ht', hr'⟩ := outC_sound fuel hs' (fCs_rel hm hx hr) hk
   exact ⟨cs', f'', L'', p'', hk', hs'', ht.trans ht', hr'⟩
end
end Go.Dv
namespace Go.Dv
open Go Go.RowKit
open Go.Vc (vis vis_of_cell CellF RowF ValsF D inN okV tyS TS sizeTS elemS fieldOff zeroC placesS lenK zerosOf convBS splice guardSlot Stay lodO Sw add_lit0 run_v zeroC_run underlying_run arr1 arr2 map1 map2 wp_value wp_skipped run_alloc_box elemS_spec zerosOf_spec toList_made hm63 oneCell_eq store_run run_append_room' run_append_grow' zeroCells_len)
variable [Out]
section
variable {P : Program} {n : Nat} {w0 : World} {ok0 own0 : Nat → Prop} {β : Nat → Option Nat} {f : Rg} {L : Ob} {p : Po} {a : Act} {w : World}
 {K : K0} {Ka : Act → World → Prop} {Q : Exit → Act → World → Prop} {CT : CallT}
theorem fam_lt {d n : Nat} (hn : n ≤ 10000) (hd : d < n) : fam d = d := Nat.mod_eq_of_lt (by omega)
theorem create_soundG {o : Oper} {is : List Nat} {ob : O} {mk : Nat → C} {cs : Array Value} {ty : TypeId} {lh : Nat × Nat} {v : Value} {w1 w' : World} (hn : n ≤ 10000)
 (hs : Sim P n w0 ok0 own0 β f L p a w) (hr : (execOp a.eval o).run P w1 = .ok (.value v) w')
 (hsz : w.heap.size ≤ w'.heap.size) (hold : ∀ b, b < w.heap.size → w'.heap[b]? = w.heap[b]?) (hnew : w'.heap[w.heap.size]? = some (.cells cs ty lh)) (hout : w'.os = w.os ∧ w'.tape = w.tape ∧ w'.output = w.output)
 (hb : ∀ d, o.dst = some d → (∀ i, hit [d] is i = false → (fun j => if j = d then some w.heap.size else β j) i = β i) →
   Stab w w' (okB w0 ok0 L β) (okB w0 ok0 ((d, kO [d] is ob) :: kL [d] is L) (fun j => if j = d then some w.heap.size else β j)) →
   RelO P w' (fun j => if j = d then some w.heap.size else β j) (okB w0 ok0 ((d, kO [d] is ob) :: kL [d] is L) (fun j => if j = d then some w.heap.size else β j)) d (kO [d] is ob))
 (hv : ∀ d, o.dst = some d → ∀ ok', RelC P w' (fun j => if j = d then some w.heap.size else β j) ok' (mk d) v)
 (h : create n o.dst is ob mk K f L p) (hK : AbsS P n w0 ok0 own0 β L a w o.dst.toList K Ka) : o.wp P a w1 Ka Q := by
 unfold create at h
 cases hd : o.dst with
 | none => simp [hd] at h
 | some d =>
  simp only [hd] at h
  split at h
  case isFalse => exact h.elim
  rename_i hdn
  have hf := fam_lt hn hdn
  obtain ⟨h1, h2⟩ := hs.place (g := some w.heap.size) (x := .c (mk d)) (v := v) (is := is) (ob := kO [d] is ob) hsz hout (fun b hb _ => hold b hb)
   (fun b e => by injection e with e; subst e; exact ⟨.inl (Nat.le_refl _), cs, ty, lh, hnew, fun cs' ty' lh hc => absurd (lt_of_heap hc) (Nat.lt_irrefl _)⟩) hf (hb d hd) (hv d hd _) hdn
  refine wp_value hr ?_
  rw [hd]
  exact hK _ _ _ _ _ _ h1 (by rw [hd]; exact keep_place a d v hf _) h2 ⟨hsz, hold⟩ h
theorem create_sound {o : Oper} {is : List Nat} {ob : O} {mk : Nat → C} {cs : Array Value} {ty : TypeId} {v : Value} {w1 : World} (hn : n ≤ 10000)
 (hs : Sim P n w0 ok0 own0 β f L p a w) (hr : (execOp a.eval o).run P w1 = .ok (.value v) (w.alloc (.cells cs ty)))
 (hb : ∀ d, o.dst = some d → (∀ i, hit [d] is i = false → (fun j => if j = d then some w.heap.size else β j) i = β i) →
   Stab w (w.alloc (.cells cs ty)) (okB w0 ok0 L β) (okB w0 ok0 ((d, kO [d] is ob) :: kL [d] is L) (fun j => if j = d then some w.heap.size else β j)) →
   RelO P (w.alloc (.cells cs ty)) (fun j => if j = d then some w.heap.size else β j) (okB w0 ok0 ((d, kO [d] is ob) :: kL [d] is L) (fun j => if j = d then some w.heap.size else β j)) d (kO [d] is ob))
 (hv : ∀ d, o.dst = some d → ∀ ok', RelC P (w.alloc (.cells cs ty)) (fun j => if j = d then some w.heap.size else β j) ok' (mk d) v)
 (h : create n o.dst is ob mk K f L p) (hK : AbsS P n w0 ok0 own0 β L a w o.dst.toList K Ka) : o.wp P a w1 Ka Q :=
 create_soundG hn hs hr (Wd.alloc w cs ty) (fun b hb => Go.heap_alloc_old w _ hb) (Go.heap_alloc_new w _) ⟨rfl, rfl, rfl⟩ hb hv h hK
theorem noSelf_spec : ∀ {cs : List C}, noSelf cs = true → ∀ x ∈ cs, x ≠ C.self
 | [], _, x, hx => by cases hx
 | y :: r, h, x, hx => by
  have hr : noSelf r = true ∧ y ≠ C.self := by cases y <;> simp_all [noSelf]
  rcases List.mem_cons.1 hx with rfl | hx
  ·exact hr.2
  ·exact noSelf_spec hr.1 x hx
theorem selfZ_rel {ok : Nat → Prop} (t : TypeId) {cs : List C} {vs : List Value} (h : RelL P w β ok cs vs) : RelL P w β ok (selfZ t cs) vs := by
 unfold selfZ
 split
 ·split
  ·cases vs with
   | nil => exact h.elim
   | cons y r => exact ⟨.inl h.1.1, h.2⟩
  ·exact h
 ·exact h
theorem selfZ_ok {b : Nat} {t : TypeId} {z : List Value} {vs : List Value} (hc : vs = z) (hz : ∀ v ∈ z, okV v) : SelfOk b t (selfZ t (z.map .v)) vs := by
 subst hc
 intro k hk
 have none' : ∀ {l : List Value} {k : Nat}, (l.map C.v)[k]? ≠ some C.self := fun {l k} e => by
  rw [List.getElem?_map] at e
  cases h : l[k]? <;> simp [h] at e
 unfold selfZ at hk
 split at hk
 ·rename_i ht
  refine ⟨ht, ?_⟩
  split at hk
  ·rename_i r e
   cases k with
   | zero =>
    cases vs with
    | nil => simp at e
    | cons y q => simp only [List.map_cons, List.cons.injEq, C.v.injEq] at e; left; rw [e.1]; rfl
   | succ k =>
    cases vs with
    | nil => simp at e
    | cons y q =>
     simp only [List.map_cons, List.cons.injEq] at e
     rw [List.getElem?_cons_succ, ← e.2] at hk
     exact absurd hk none'
  ·exact absurd hk none'
 ·exact absurd hk none'
theorem alloc_step {o : Oper} {t : TypeId} (ho : o.op = .alloc t) (hn : n ≤ 10000) (hs : Sim P n w0 ok0 own0 β f L p a w)
 (h : dOp CT P n o K f L p) (hK : AbsS P n w0 ok0 own0 β L a w o.dst.toList K Ka) : o.wp P a w Ka Q := by
 simp only [dOp, ho] at h
 split at h
 case h_2 => exact h.elim
 rename_i z hz
 obtain ⟨hz, hzok⟩ := zeroD_spec hz
 obtain ⟨v, hv, hc⟩ := zeroC_run hz w
 have hrun : (execOp a.eval o).run P w = .ok (.value (.pointer (some ⟨w.heap.size, 0, none⟩))) (w.alloc (.cells v.cells t)) := by
  simp [execOp, ho, Instr.alloc, hv, run_alloc_box]
 refine create_sound (mk := fun d => .p d 0) hn hs hrun (fun d _ hβ hst => ?_) (fun d _ ok' => ⟨w.heap.size, by simp, rfl⟩) h hK
 refine ⟨w.heap.size, v.cells, t, _, by simp, Go.heap_alloc_new w _, Lh.zero _, (selfZ_ok hc hzok).kCs, ?_⟩
 have := RelL.tr (P := P) (ds := [d]) (is := []) hβ hst (selfZ_rel t (RelL.vals (β := β) z hzok))
 rw [hc]; exact this
theorem box_step {o : Oper} {t : TypeId} {x : Operand} (ho : o.op = .box t x) (hok : okOper o = true) (hn : n ≤ 10000) (hs : Sim P n w0 ok0 own0 β f L p a w)
 (h : dOp CT P n o K f L p) (hK : AbsS P n w0 ok0 own0 β L a w o.dst.toList K Ka) : o.wp P a w Ka Q := by
 simp only [dOp, ho] at h
 split at h
 case h_2 => exact h.elim
 rename_i cs hcs
 have hx := cellsOf_rel (ev_rel hs (x := x) (by simpa [okOper, Op.operands, ho] using hok)) hcs
 have hrun : (execOp a.eval o).run P w = .ok (.value (.pointer (some ⟨w.heap.size, 0, none⟩))) (w.alloc (.cells (a.eval x).cells t)) := by
  simp [execOp, ho, Instr.box, run_alloc_box]
 refine create_sound (mk := fun d => .p d 0) hn hs hrun (fun d _ hβ hst => ?_) (fun d _ ok' => ⟨w.heap.size, by simp, rfl⟩) h.2 hK
 exact ⟨w.heap.size, _, t, _, by simp, Go.heap_alloc_new w _, Lh.zero _, (SelfOk.none (noSelf_spec h.1)).kCs, RelL.tr (ds := [d]) (is := []) hβ hst hx⟩
theorem arr_new {e : TypeId} {i : TypeInfo} {q sz : Nat} {ds : List D} {F : Fp} {hd : List Value} {cs : Array Value} {G : List Nat} {w' : World} {d : Nat} {ok ok' : Nat → Prop} {β' : Nat → Option Nat} {is : List Nat}
 (hi : P.info? e = some i) (hsz : i.size = sz) (hst : Stab w w' ok ok') (hv : ValsF w ds hd G) (hG : ∀ b ∈ G, ok b) (hF : TlL w ds hd G F) (hF0 : F ≠ none → (q = 0 → cs.size = 0) ∧ 0 < i.size) {g : Nat} (hg : β' d = some g)
 {lh : Nat × Nat} (hh : w'.heap[g]? = some (.cells cs e lh)) (hlh : Lh cs.size lh) {junk : List Value} (hj : cs.toList = hd ++ junk) (hl : ds.length = q * sz) : RelO P w' β' ok' d (kO [d] is (.arr e q ds F)) := by
 refine .inr ⟨g, cs, hd, junk, G, lh, hg, hh, hlh, hj, hv.monoF fun x hx => (hst.keep x (ValsF.vis hv x hx) (hG x hx)).1, fun x hx => (hst.keep x (ValsF.vis hv x hx) (hG x hx)).2, ⟨hF.mono (fun x hx => (hst.keep x (ValsF.vis hv x hx) (hG x hx)).1) hv, fun hn => ⟨(hF0 hn).1, i, hi, (hF0 hn).2⟩⟩, fun s hs => ?_⟩
 simp only [hi, Option.map_some, Option.some.injEq] at hs
 rw [hl, ← hsz, hs]
theorem fillC_length {pl : List (Nat × Nat)} : ∀ (ps : List (Nat × S)) {cs out : List C}, fillC pl cs ps = some out → out.length = cs.length
 | [], cs, out, h => by simp only [fillC, Option.some.injEq] at h; rw [h]
 | (i, s) :: r, cs, out, h => by
  simp only [fillC] at h
  split at h
  ·split at h
   ·rename_i hc
    rw [fillC_length r h, Go.Vc.splice_length (by omega)]
   ·cases h
  ·cases h
theorem dsOf_length : ∀ {cs : List C} {ds : List D} {F : Fp}, dsOf cs = some (ds, F) → ds.length = cs.length
 | [], ds, F, h => by simp only [dsOf, Option.some.injEq, Prod.mk.injEq] at h; rw [← h.1]; rfl
 | x :: r, ds, F, h => by
  simp only [dsOf] at h
  split at h
  ·rename_i d F1 es F2 h1 h2
   simp only [Option.some.injEq, Prod.mk.injEq] at h
   rw [← h.1]; simp [dsOf_length h2]
  ·cases h
theorem buildSlice_step {o : Oper} {T len : Nat} {ps : Array (Nat × Operand)} (ho : o.op = .buildSlice T len ps) (hok : okOper o = true) (hn : n ≤ 10000) (hs : Sim P n w0 ok0 own0 β f L p a w)
 (h : dOp CT P n o K f L p) (hK : AbsS P n w0 ok0 own0 β L a w o.dst.toList K Ka) : o.wp P a w Ka Q := by
 simp only [dOp, ho] at h
 unfold dBuildS at h
 split at h
 case h_2 => exact h.elim
 rename_i e sz by' hel
 split at h
 case h_2 => exact h.elim
 rename_i zs hzs
 split at h
 case h_2 => exact h.elim
 rename_i cs hcs
 obtain ⟨hsz0, hlim, h⟩ := h
 obtain ⟨hzs, hzok⟩ := zerosD_spec hzs
 obtain ⟨hu, i, hi, hsz, _⟩ := elemS_spec hel
 obtain ⟨zv, hzv, hzl, hzs'⟩ := zerosOf_spec hzs w
 have hmade : ((Array.range (len * sz)).map (zv.cells[· % zv.cells.size]!)).toList = zs := by
  rw [hzs', ← toList_made _ _ (by omega), hzl]
 have hsr : (sizeOf e).run P w = .ok sz w := by simp [sizeOf, typeInfo, hi, hsz]
 obtain ⟨arr, h1, h2⟩ := fillC_rel (P := P) (w := w) (β := β) (ok := okB w0 ok0 L β) (a := a) (f := f) ps.toList (arr := (Array.range (len * sz)).map (zv.cells[· % zv.cells.size]!))
  (pl := (List.range len).map fun i => (i * sz, sz)) (place := fun i => if i < len then some (i * sz, sz) else none) (fun i => by by_cases hi : i < len <;> simp [hi])
  (parts_ok (o := o) hs (by simpa [okOper, Op.operands, ho] using hok)) (by rw [hmade]; exact RelL.vals _ hzok) hcs
 have hrun : (execOp a.eval o).run P w = .ok (.value (.slice (some ⟨w.heap.size, 0, none⟩) len len)) (w.alloc (.cells arr e)) := by
  have h1' : Instr.fill (fun i => some (i * sz, sz)) ((Array.range (len * sz)).map (zv.cells[· % zv.cells.size]!)) (ps.toList.map fun p => (p.1, a.eval p.2)) = some arr := by
   clear h h2 hcs
   generalize (ps.toList.map fun p => (p.1, a.eval p.2)) = qs at h1
   generalize ((Array.range (len * sz)).map (zv.cells[· % zv.cells.size]!)) = base at h1
   induction qs generalizing base with
   | nil => exact h1
   | cons p r ih =>
    obtain ⟨i, v⟩ := p
    simp only [Instr.fill] at h1 ⊢
    by_cases hi : i < len
    ·simp only [hi, if_true] at h1
     split at h1
     ·cases h1
     ·rename_i hn; rw [if_neg hn]; exact ih _ h1
    ·simp [hi] at h1
  have hpt : (ps.map fun (x : Nat × Operand) => (x.1, a.eval x.2)).toList = ps.toList.map fun p => (p.1, a.eval p.2) := by simp
  have hnl : ¬ (len * sz > 16777216) := by omega
  have h224 : (2 : Nat) ^ 24 = 16777216 := by decide
  simp only [execOp, ho, Instr.buildSlice, Sem.run_bind, underlying_run hu, Result.andThen_ok, hsr, h224, if_neg hnl, hpt]
  by_cases h0 : len * sz = 0
  ·have hl0 : len = 0 := by
    rcases Nat.mul_eq_zero.1 h0 with q | q <;> omega
   subst hl0
   have hb : (Array.range (0 * sz)).map (zv.cells[· % zv.cells.size]!) = #[] := by simp
   have hb' : (Array.range 0).map ((#[] : Array Value)[· % (#[] : Array Value).size]!) = #[] := by simp
   rw [hb] at h1'
   simp only [h0, if_true, Sem.run_pure, Result.andThen_ok, hb', h1', newRow, Sem.run_bind, run_newObj, World.alloc_eq]
  ·simp only [h0, if_false, Sem.run_bind, hzv, Result.andThen_ok, Sem.run_pure, h1', newRow, run_newObj, World.alloc_eq]
 obtain ⟨cs', f', L', p', hk, hs', ht, hr⟩ := outC_sound 12 hs h2 h
 split at hk
 case h_2 => exact hk.elim
 rename_i ds F hds
 obtain ⟨G, h3, h4, h5⟩ := dsOf_rel hds hr
 have hlen : ds.length = len * sz := by
  have e1 := hr.length
  have e2 := h2.length
  have e3 := fillC_length _ hcs
  rw [dsOf_length hds, e1, ← e2, e3, List.length_map, hzs']
  simp [hzl]
 have harr : arr.toList.length = len * sz := by rw [← hr.length, ← dsOf_length hds, hlen]
 refine create_sound (mk := fun d => .s d len) hn hs' hrun (fun d _ hβ hst => ?_) (fun d _ ok' => ?_) hk (fun β' f'' L'' p'' a' w' q1 q2 q3 q5 q4 => hK _ _ _ _ _ _ q1 q2 (ht.trans q3) q5 q4)
 ·refine arr_new (F := tell p' F) (junk := []) hi hsz hst h3 h4 (fun Fs e => ?_) (fun _ => ⟨fun e => by have := harr; rw [e] at this; simpa using this, by omega⟩) (by simp) (Go.heap_alloc_new w _) (Lh.zero _) (by simp) hlen
  unfold tell at e
  split at e
  ·exact h5 Fs e
  ·cases e
 ·show OwnS P _ (if d = d then some w.heap.size else β d) len _
  rw [if_pos rfl]
  refine ⟨len, arr, e, (0, 0), rfl, Nat.le_refl _, hm63 hlim hsz0, Go.heap_alloc_new w _, fun s hss => ?_⟩
  simp only [hi, Option.map_some, Option.some.injEq] at hss
  have : arr.size = len * sz := by simpa using harr
  rw [this, ← hss, hsz]; exact Nat.le_refl _
theorem vals_map_rel {ok : Nat → Prop} {w : World} : ∀ {z : List Value} {zd : List D} {F : Fp}, dsOf (z.map .v) = some (zd, F) → (∀ v ∈ z, okV v) → ∃ G, ValsF w zd z G ∧ (∀ b ∈ G, ok b) ∧ TlL w zd z G F := fun h hz =>
 dsOf_rel (P := default) (β := fun _ => none) h (RelL.vals _ hz)
theorem rep_vals {w : World} {zd : List D} {z : List Value} (h : ValsF w zd z []) : ∀ k, ValsF w (List.replicate k zd).flatten (List.replicate k z).flatten []
 | 0 => rfl
 | k + 1 => by
  have := h.join (rep_vals h k)
  simpa [List.replicate_succ] using this
theorem rep_wh {w : World} {zd : List D} {z : List Value} (h : WhL w zd z) : ∀ k, WhL w (List.replicate k zd).flatten (List.replicate k z).flatten
 | 0 => trivial
 | k + 1 => by
  have := h.append (rep_wh h k)
  simpa [List.replicate_succ] using this
theorem makeSlice_step {o : Oper} {T : Nat} {l c : Operand} (ho : o.op = .makeSlice T l c) (hok : okOper o = true) (hn : n ≤ 10000) (hs : Sim P n w0 ok0 own0 β f L p a w)
 (h : dOp CT P n o K f L p) (hK : AbsS P n w0 ok0 own0 β L a w o.dst.toList K Ka) : o.wp P a w Ka Q := by
 simp only [okOper, Op.operands, ho, List.all_cons, List.all_nil, Bool.and_true, Bool.and_eq_true] at hok
 simp only [dOp, ho] at h
 have hl := ev_rel hs hok.1
 have hc := ev_rel hs hok.2
 unfold dMake at h
 split at h
 case h_2 => exact h.elim
 rename_i x hel
 split at h
 case h_2 => exact h.elim
 rename_i y hec
 split at h
 case h_2 => exact h.elim
 rename_i e sz bytes zd hez
 rw [hel] at hl
 rw [hec] at hc
 have hl : a.eval l = .int .i64 x := hl.1
 have hc : a.eval c = .int .i64 y := hc.1
 obtain ⟨h0, rfl, hsz0, hby, h63, h⟩ := h
 unfold elemZ at hez
 split at hez
 case h_2 => cases hez
 rename_i e' sz' by' hes
 split at hez
 case h_2 => cases hez
 rename_i z hz
 split at hez
 case isFalse => cases hez
 rename_i hzl0
 split at hez
 case h_2 => cases hez
 rename_i zd' hzd
 simp only [Option.some.injEq, Prod.mk.injEq] at hez
 obtain ⟨rfl, rfl, rfl, rfl⟩ := hez
 obtain ⟨hz, hzok⟩ := zeroD_spec hz
 obtain ⟨hu, i, hi, hsz, hbs⟩ := elemS_spec hes
 obtain ⟨zv, hzv, hzc⟩ := zeroC_run hz w
 have hzl : zv.cells.size = sz' := by rw [← hzl0, ← hzc]; simp
 have hzi : i.zero = some zv := by
  simp only [zeroValue, typeInfo, Sem.run_bind, run_program, Result.andThen_ok, hi, Sem.run_pure] at hzv
  cases hz : i.zero with
  | none => simp [hz] at hzv
  | some q => simp only [hz, Sem.run_pure, Result.ok.injEq, and_true] at hzv; rw [hzv]
 have hmade : (madeCells zv.cells (x.toNat * sz')).toList = (List.replicate x.toNat z).flatten := by
  rw [← hzc, ← toList_made _ _ (by omega)]; simp only [madeCells, hzl]
 have hm := run_make (P := P) w T e' i zv hu hi hzi .i64 .i64 x x h0 (Int.le_refl _) (by rw [hbs, Int.mul_comm]; omega) h63
 rw [hsz] at hm
 have hrun : (execOp a.eval o).run P w = .ok (.value (.slice (some ⟨w.heap.size, 0, none⟩) x.toNat x.toNat)) (w.alloc (.cells (madeCells zv.cells (x.toNat * sz')) e')) := by
  simp [execOp, ho, hl, hc, hm]
 obtain ⟨G, hv1, _, hv3⟩ := vals_map_rel (ok := fun _ => True) (w := w) hzd hzok
 have hG : G = [] := by
  have := (hv3 [] rfl).1
  cases G with
  | nil => rfl
  | cons b r => have := this b; simp at this
 subst hG
 have hvals := rep_vals hv1 x.toNat
 have hzdl : zd'.length = sz' := by rw [← hv1.length, hzl0]
 refine create_sound (mk := fun d => .s d x.toNat) hn hs hrun (fun d _ hβ hst => ?_) (fun d _ ok' => ?_) h hK
 ·refine arr_new (F := tell p (some [])) (junk := []) hi hsz hst hvals (by simp) (fun Fs e => ⟨Sb.nil _, rep_wh (hv3 [] rfl).2 _⟩) (fun _ => ⟨fun e => by rw [e]; simp [madeCells], by omega⟩) (by simp) (Go.heap_alloc_new w _) (Lh.zero _) (by simp [hmade]) (by simp [hzdl])
 ·show OwnS P _ (if d = d then some w.heap.size else β d) x.toNat _
  rw [if_pos rfl]
  refine ⟨x.toNat, _, e', (0, 0), rfl, Nat.le_refl _, by simp only [maxLen]; omega, Go.heap_alloc_new w _, fun s hss => ?_⟩
  simp only [hi, Option.map_some, Option.some.injEq] at hss
  rw [size_madeCells, ← hss, hsz]; exact Nat.le_refl _
theorem ownB_setL {i : Nat} {ob ob' : O} (hl : look L i = some ob) (b : Nat) : ownB (setL L i ob') β b ↔ ownB L β b := by
 constructor
 ·rintro ⟨j, o, h1, h2⟩
  rw [look_setL] at h1
  split at h1
  ·rename_i e; subst e; exact ⟨i, ob, hl, h2⟩
  ·exact ⟨j, o, h1, h2⟩
 ·rintro ⟨j, o, h1, h2⟩
  by_cases e : i = j
  ·subst e; exact ⟨i, ob', by rw [look_setL, if_pos rfl], h2⟩
  ·exact ⟨j, o, by rw [look_setL, if_neg e]; exact h1, h2⟩
theorem Sim.write (hs : Sim P n w0 ok0 own0 β f L p a w) {i b : Nat} {ob ob' : O} {cs cs' : Array Value} {ty : TypeId} {lh0 : Nat × Nat} (hl : look L i = some ob) (hb : β i = some b) (hc : w.heap[b]? = some (.cells cs ty lh0))
 (hsz : cs'.size = cs.size) (hob : Stab w (w.setRow b cs') (okB w0 ok0 L β) (okB w0 ok0 (setL L i ob') β) → RelO P (w.setRow b cs') β (okB w0 ok0 (setL L i ob') β) i ob') :
 Sim P n w0 ok0 own0 β f (setL L i ob') p a (w.setRow b cs') ∧ Tr L β w (setL L i ob') β (w.setRow b cs') := by
 have how : ownB L β b := ⟨i, ob, hl, hb⟩
 have hcells : ∀ (x : Nat) cs2 ty2 lh, w.heap[x]? = some (.cells cs2 ty2 lh) → ∃ cs3 lh3, (w.setRow b cs').heap[x]? = some (.cells cs3 ty2 lh3) ∧ cs3.size = cs2.size := fun x cs2 ty2 lh hx => by
  by_cases e : x = b
  ·subst e
   rw [hc] at hx; injection hx with hx; injection hx with e1 e2 e3
   subst e1 e2 e3
   exact ⟨cs', _, setRow_heap w x cs cs' ty _ hc, hsz⟩
  ·exact ⟨cs2, lh, (setRow_other w b x cs' e).trans hx, rfl⟩
 have hst : Stab w (w.setRow b cs') (okB w0 ok0 L β) (okB w0 ok0 (setL L i ob') β) :=
  ⟨fun x _ hx => ⟨setRow_other w b x cs' fun e => hx.1 (e ▸ how), fun ho => hx.1 ((ownB_setL hl x).1 ho), hx.2⟩, hcells⟩
 refine ⟨⟨hs.size, hs.defers, fun j => (hs.slots j).st hst, fun j o hj => ?_, fun j j' o o' x hj hj' hx hx' => ?_, fun x hx hlt => hs.old x ((ownB_setL hl x).1 hx) hlt, hs.sub, fun x hx hn => ?_, hs.wd.trans (Wd.setRow w b cs'), hs.outer, fun ps hps => ?_⟩,
  ⟨by simp, fun x _ hn => setRow_other w b x cs' fun e => hn (e ▸ how), fun x _ ho => (ownB_setL hl x).1 ho, hcells⟩⟩
 ·rw [look_setL] at hj
  split at hj
  ·rename_i e; subst e; injection hj with hj; subst hj; exact hob hst
  ·rename_i e
   refine (hs.objs j o hj).st hst fun x hx => setRow_other w b x cs' fun e' => ?_
   subst e'
   exact e (hs.inj i j ob o x hl hj hb hx)
 ·have aux : ∀ j o, look (setL L i ob') j = some o → ∃ o', look L j = some o' := by
   intro j o hj
   rw [look_setL] at hj
   split at hj
   ·rename_i e; subst e; exact ⟨ob, hl⟩
   ·exact ⟨o, hj⟩
  obtain ⟨o1, h1⟩ := aux j o hj
  obtain ⟨o2, h2⟩ := aux j' o' hj'
  exact hs.inj j j' o1 o2 x h1 h2 hx hx'
 ·rw [setRow_other w b x cs' fun e => hn (hs.old x (e ▸ how) hx)]; exact hs.frame x hx hn
 ·obtain ⟨h1, h2⟩ := hs.pool ps hps
  refine ⟨h1, fun x hx => ?_⟩
  obtain ⟨h3, ⟨cs2, t, lh, h4, hlh⟩, h5⟩ := h2 x hx
  refine ⟨h3, ⟨cs2, t, lh, (setRow_other w b x cs' fun e => h5 (e ▸ how)).trans h4, hlh⟩, fun ho => h5 ((ownB_setL hl x).1 ho)⟩
theorem good_noself {x : C} (h : goodC x = true) : x ≠ C.self := fun e => by subst e; simp [goodC] at h
theorem mg_len : ∀ (a b : List C), (mg a b).length = b.length
 | [], b => by cases b <;> rfl
 | x :: r, [] => rfl
 | x :: r, y :: t => by simp only [mg, List.length_cons, mg_len r t]
theorem mgC_rel {ok : Nat → Prop} (x : C) {y : C} {v : Value} (h : RelC P w β ok y v) : RelC P w β ok (mgC x y) v := by
 unfold mgC
 split
 ·exact .inl h.1
 ·exact h
theorem mg_rel {ok : Nat → Prop} : ∀ (a : List C) {b : List C} {vs : List Value}, RelL P w β ok b vs → RelL P w β ok (mg a b) vs
 | [], b, vs, h => by cases b <;> exact h
 | x :: r, [], [], _ => trivial
 | x :: r, y :: t, v :: vs, h => ⟨mgC_rel x h.1, mg_rel r h.2⟩
 | _ :: _, [], _ :: _, h => h.elim
 | _ :: _, _ :: _, [], h => h.elim
theorem mg_self {ok : Nat → Prop} : ∀ (a : List C) {b : List C} {vs : List Value}, RelL P w β ok b vs → (∀ x ∈ b, x ≠ C.self) → ∀ k : Nat, (mg a b)[k]? = some C.self → a[k]? = some C.self ∧ vs[k]? = some (Value.pointer Option.none)
 | [], b, vs, h, hn, k, hk => by
  have : mg [] b = b := by cases b <;> rfl
  rw [this] at hk
  exact absurd rfl (hn _ (List.mem_of_getElem? hk))
 | x :: r, [], [], _, _, k, hk => by simp [mg] at hk
 | x :: r, y :: t, v :: vs, h, hn, 0, hk => by
  simp only [mg, List.getElem?_cons_zero, Option.some.injEq] at hk ⊢
  unfold mgC at hk
  split at hk
  ·exact ⟨rfl, h.1.1⟩
  ·exact absurd hk (hn _ (by simp))
 | x :: r, y :: t, v :: vs, h, hn, k + 1, hk => by
  simp only [mg, List.getElem?_cons_succ] at hk ⊢
  exact mg_self r h.2 (fun x hx => hn x (by simp [hx])) k hk
 | _ :: _, [], _ :: _, h, _, _, _ => h.elim
 | _ :: _, _ :: _, [], h, _, _, _ => h.elim
theorem SelfOk.splice {ty : TypeId} {b : Nat} {cs ys : List C} {vs yv : List Value} {off : Nat} (h : SelfOk b ty cs vs) (hy : ∀ k : Nat, ys[k]? = some C.self → cs[off + k]? = some C.self ∧ yv[k]? = some (Value.pointer Option.none)) (hoff : off ≤ cs.length) (hl : ys.length = yv.length) (hc : cs.length = vs.length) :
 SelfOk b ty (Go.Vc.splice cs off ys) (vs.take off ++ yv ++ vs.drop (off + yv.length)) := fun k hk => by
 unfold Go.Vc.splice at hk
 rw [List.append_assoc]
 rw [List.getElem?_append] at hk ⊢
 simp only [List.length_take, hc] at hk ⊢
 by_cases h1 : k < min off vs.length
 ·rw [if_pos h1] at hk ⊢
  rw [List.getElem?_take, if_pos (by omega)] at hk ⊢
  exact h k hk
 ·rw [if_neg h1] at hk ⊢
  rw [List.getElem?_append] at hk ⊢
  rw [hl] at hk
  by_cases h2 : k - min off vs.length < yv.length
  ·rw [if_pos h2] at hk
   rw [if_pos h2]
   obtain ⟨h3, h4⟩ := hy _ hk
   exact ⟨(h _ h3).1, .inl h4⟩
  ·rw [if_neg h2] at hk ⊢
   rw [List.getElem?_drop] at hk ⊢
   exact h _ hk
theorem good_one {ok : Nat → Prop} {x : C} {v : Value} (h : RelC P w β ok x v) (hg : goodC x = true) : Go.Vc.oneCell v = true := by
 cases x with
 | v x => obtain ⟨rfl, hk⟩ := h; cases v <;> simp_all [Go.Vc.oneCell, okV]
 | sl m ds F => obtain ⟨G, ⟨a, cap, rfl, _⟩, _⟩ := h; rfl
 | p i off => obtain ⟨b, _, rfl⟩ := h; rfl
 | q ds => obtain ⟨b, o, G, rfl, _⟩ := h; rfl
 | fn g fs cs => obtain ⟨a, b, rfl, _⟩ := h; rfl
 | ow ty m ds F => exact h.elim
 | dead => simp [goodC] at hg
 | self => simp [goodC] at hg
 | s i m =>
  have h : OwnS P w (β i) m v := h
  cases hb : β i with
  | none => rw [hb] at h; obtain ⟨_, rfl⟩ := h; rfl
  | some b => rw [hb] at h; obtain ⟨cap, cs, ty, lh, rfl, _⟩ := h; rfl
theorem goods_one {ok : Nat → Prop} : ∀ {xs : List C} {vs : List Value}, RelL P w β ok xs vs → xs.all goodC = true → ∀ v ∈ vs, Go.Vc.oneCell v = true
 | [], [], _, _, _, hv => by cases hv
 | x :: r, y :: t, h, hg, v, hv => by
  simp only [List.all_cons, Bool.and_eq_true] at hg
  rcases List.mem_cons.1 hv with rfl | hv
  ·exact good_one h.1 hg.1
  ·exact goods_one h.2 hg.2 v hv
 | [], _ :: _, h, _, _, _ => h.elim
 | _ :: _, [], h, _, _, _ => h.elim
theorem apF_flat : ∀ a b : List (List Nat), (apF a b).flatten = a.flatten ++ b.flatten
 | [], b => by simp [apF]
 | x :: r, b => by simp [apF, apF_flat r b]
theorem setF_spec {F G : Fp} {H : List (List Nat)} (h : setF F G = some H) : ∃ a b, F = some a ∧ G = some b ∧ H.flatten = a.flatten ++ b.flatten := by
 unfold setF at h
 split at h
 ·injection h with h; subst h; exact ⟨_, _, rfl, rfl, apF_flat _ _⟩
 ·cases h
theorem store_step {o : Oper} {t : TypeId} {x y : Operand} (ho : o.op = .store t x y) (hok : okOper o = true) (hs : Sim P n w0 ok0 own0 β f L p a w)
 (h : dOp CT P n o K f L p) (hK : Abs P n w0 ok0 own0 β L a w o.dst.toList K Ka) : o.wp P a w Ka Q := by
 simp only [okOper, Op.operands, ho, List.all_cons, List.all_nil, Bool.and_true, Bool.and_eq_true] at hok
 have hx := ev_rel hs (x := x) hok.1
 have hy := ev_rel hs (x := y) hok.2
 simp only [dOp, ho] at h
 unfold dStore at h
 split at h
 case h_2 => exact h.elim
 rename_i ys hys
 obtain ⟨hg, hsz, hbad, h⟩ := h
 have hyr := cellsOf_rel hy hys
 have hone := goods_one hyr hg
 have hylen : ys.length = (a.eval y).cells.size := by simpa using hyr.length
 have hsz' : (a.eval y).cells.size = sizeTS (tyS P t) := by rw [← hylen, hsz]
 split at h
 case h_2 => exact h.elim
 rename_i i off hev
 rw [hev] at hx
 obtain ⟨b, hb, hx⟩ := hx
 have fin : ∀ {ob ob' : O} {cs : Array Value} {ty : TypeId} {lh : Nat × Nat}, look L i = some ob → w.heap[b]? = some (.cells cs ty lh) → Lh cs.size lh → off + (a.eval y).cells.size ≤ cs.size →
  (∀ cs' : Array Value, cs'.toList = cs.toList.take off ++ (a.eval y).cells.toList ++ cs.toList.drop (off + (a.eval y).cells.toList.length) → Stab w (w.setRow b cs') (okB w0 ok0 L β) (okB w0 ok0 (setL L i ob') β) → (w.setRow b cs').heap[b]? = some (.cells cs' ty lh) → Lh cs'.size lh → RelO P (w.setRow b cs') β (okB w0 ok0 (setL L i ob') β) i ob') →
  K (put n f o.dst (.c .dead)) (setL L i ob') p → o.wp P a w Ka Q := by
  intro ob ob' cs ty lh hl hc hlh hle hob hk
  have hst := run_storeCells_lh P b off ty lh (a.eval y).cells.toList 0 cs w hc hlh (by simpa using hle) (fun v hv => by rw [oneCell_eq]; exact hone v hv)
  simp only [Nat.add_zero] at hst
  obtain ⟨h1, h2⟩ := hs.write (cs' := (cs.toList.take off ++ (a.eval y).cells.toList ++ cs.toList.drop (off + (a.eval y).cells.toList.length)).toArray) (ob' := ob') hl hb hc (by simp; omega)
   (fun hst => hob _ (by simp) hst (setRow_heap w b cs _ ty _ hc) (fun j hj => hlh j (by simp at hj; omega)))
  exact wp_skipped (store_run ho hx hsz' hbad hst) (hK _ _ _ _ _ _ (h1.put o.dst (x := .c .dead) trivial) (keep_put a o.dst undef) h2 hk)
 split at h
 ·rename_i cs hl
  obtain ⟨hle, hk⟩ := h
  obtain ⟨b', vs, ty, lh, h1, h2, hlh, hsf, h3⟩ := hs.objs i _ hl
  rw [hb] at h1; injection h1 with h1; subst h1
  have hcl : cs.length = vs.size := by simpa using h3.length
  have hmr := mg_rel (P := P) (cs.drop off) hyr
  have hml := mg_len (cs.drop off) ys
  refine fin (ob' := .str (splice cs off (mg (cs.drop off) ys))) hl h2 hlh (by omega) (fun cs' hcs' hst hh hlh' => ⟨b, cs', ty, _, hb, hh, hlh', ?_, ?_⟩) hk
  ·rw [hcs']
   refine hsf.splice (fun k hk => ?_) (by omega) (by rw [hml]; exact hyr.length) h3.length
   have := mg_self (cs.drop off) hyr (fun x hx => good_noself (List.all_eq_true.1 hg x hx)) k hk
   exact ⟨by rw [← List.getElem?_drop]; exact this.1, this.2⟩
  ·rw [hcs']
   exact (h3.splice hmr).st hst
 ·rename_i ty m ds F hl
  obtain ⟨hle, h⟩ := h
  split at h
  case h_2 => exact h.elim
  rename_i es G hes
  obtain ⟨GE, h8, h9, h10⟩ := dsOf_rel hes hyr
  rcases hs.objs i _ hl with ⟨h1, _⟩ | ⟨b', vs, hd, junk, GF, lh, h1, h2, hlh, h3, h4, h5, h6, h7⟩
  ·rw [hb] at h1; cases h1
  rw [hb] at h1; injection h1 with h1; subst h1
  have hdl : hd.length = ds.length := h4.length
  have hvl : vs.size = hd.length + junk.length := by simpa using congrArg List.length h3
  refine fin (ob' := .arr ty m (splice ds off es) (setF F G)) hl h2 hlh (by omega) (fun cs' hcs' hst hh hlh' => .inr ?_) h
  have hsplit : ds = ds.take off ++ (ds.drop off).take ys.length ++ ds.drop (off + ys.length) := by
   rw [← List.drop_drop, List.append_assoc, List.take_append_drop, List.take_append_drop]
  rw [hsplit] at h4
  obtain ⟨v12, v3, F12, F3, e1, e2, k12, k3⟩ := h4.split
  obtain ⟨v1, v2, F1, F2, e3, e4, k1, k2⟩ := k12.split
  have l1 : v1.length = off := by rw [k1.length, List.length_take]; omega
  have l2 : v2.length = ys.length := by rw [k2.length, List.length_take, List.length_drop]; omega
  have hmem : ∀ x, x ∈ F1 ++ (GE ++ F3) → okB w0 ok0 L β x := fun x hx => by
   simp only [List.mem_append] at hx
   rcases hx with hx | hx | hx
   ·exact h5 x (by rw [e2, e4]; simp [hx])
   ·exact h9 x hx
   ·exact h5 x (by rw [e2]; simp [hx])
  have kall : ValsF w (splice ds off es) (v1 ++ ((a.eval y).cells.toList ++ v3)) (F1 ++ (GE ++ F3)) := by
   unfold Go.Vc.splice
   have hel : es.length = ys.length := dsOf_length hes
   rw [hel]
   exact k1.join (h8.join k3)
  refine ⟨b, cs', v1 ++ ((a.eval y).cells.toList ++ v3), junk, F1 ++ (GE ++ F3), _, hb, hh, hlh', ?_, kall.monoF fun x hx => (hst.keep x (ValsF.vis kall x hx) (hmem x hx)).1, fun x hx => (hst.keep x (ValsF.vis kall x hx) (hmem x hx)).2, ⟨TlL.mono (fun x hx => (hst.keep x (ValsF.vis kall x hx) (hmem x hx)).1) kall fun Fs e => ?_, fun hn => ⟨fun hm => ?_, (h6.2 fun e => hn (by rw [e]; rfl)).2⟩⟩, fun s hss => ?_⟩
  ·rw [hcs', h3, e1, e3]
   have l2' : (a.eval y).cells.toList.length = v2.length := by rw [l2, hylen]; simp
   rw [l2', ← l1]
   simp [List.append_assoc]
  ·obtain ⟨q0, q9, q1, q2, q3⟩ := setF_spec e
   have e5 := (h6.1 _ q1).1
   have e6 := (h10 _ q2).1
   have wd := (h6.1 _ q1).2
   rw [hsplit, e1, e3] at wd
   obtain ⟨wd12, wd3⟩ := WhL.of_app (by simp only [List.length_append, l1, l2, List.length_take, List.length_drop]; omega) wd
   obtain ⟨wd1, wd2⟩ := WhL.of_app (by simp only [l1, List.length_take]; omega) wd12
   refine ⟨?_, by unfold Go.Vc.splice; rw [dsOf_length hes]; exact wd1.append ((h10 _ q2).2.append wd3)⟩
   rw [q3]
   intro x
   have e7 := e5 x
   have e8 := e6 x
   rw [e2, e4] at e7
   simp only [List.count_append] at e7 e8 ⊢
   omega
  ·have k0 := (h6.2 fun e => hn (by rw [e]; rfl)).1 hm
   have k1 := congrArg List.length hcs'
   simp at k1
   omega
  ·rw [Go.Vc.splice_length (by rw [dsOf_length hes]; omega)]; exact h7 s hss
 ·exact h.elim
end
end Go.Dv
namespace Go.Dv
open Go Go.RowKit
open Go.Vc (vis vis_of_cell CellF RowF ValsF D inN okV tyS TS sizeTS elemS fieldOff zeroC placesS lenK zerosOf convBS splice guardSlot Stay lodO Sw add_lit0 run_v zeroC_run underlying_run arr1 arr2 map1 map2 wp_value wp_skipped run_alloc_box elemS_spec zerosOf_spec toList_made hm63 oneCell_eq store_run run_append_room' run_append_grow' zeroCells_len)
variable [Out]
section
variable {P : Program} {n : Nat} {w0 : World} {ok0 own0 : Nat → Prop} {β : Nat → Option Nat} {f : Rg} {L : Ob} {p : Po} {a : Act} {w : World}
 {K : K0} {Ka : Act → World → Prop} {Q : Exit → Act → World → Prop} {CT : CallT}
theorem bytesD_vals (w : World) (s : ByteArray) : ValsF w (bytesD s.data.toList) (Lib.strCells s) [] := by
 unfold bytesD Lib.strCells
 induction s.data.toList with
 | nil => exact rfl
 | cons b r ih => exact ⟨[], [], ⟨rfl, rfl, trivial⟩, ih, rfl⟩
theorem bytesD_wh (w : World) (s : ByteArray) : WhL w (bytesD s.data.toList) (Lib.strCells s) := by
 unfold bytesD Lib.strCells
 induction s.data.toList with
 | nil => exact trivial
 | cons b r ih => exact ⟨trivial, ih⟩
theorem newsOf_spec {sz : Nat} {t : S} {tv : Value} {R : Nat → List D → Fp → Prop} (hs : Sim P n w0 ok0 own0 β f L p a w) (ht : RelS P w β (okB w0 ok0 L β) t tv) (h : newsOf t L R) :
 ∃ q es G, R q es G ∧ (es.length = q * sz → 0 < sz → ∃ news H, ValsF w es news H ∧ (∀ b ∈ H, okB w0 ok0 L β b) ∧ TlL w es news H G ∧
  (Builtin.lenOf tv).run P w = .ok q w ∧ (Builtin.firstCells sz q tv).run P w = .ok news.toArray w ∧ (Builtin.firstCells sz q tv).run P w.drew = .ok news.toArray w.drew) := by
 have some' : ∀ (ad : Addr) (q c : Nat) (news : List Value), news.length = q * sz → (∀ i v, news[i]? = some v → w.cell? (ad.add i) = some v) → tv = .slice (some ad) q c →
  (Builtin.lenOf tv).run P w = .ok q w ∧ (Builtin.firstCells sz q tv).run P w = .ok news.toArray w ∧ (Builtin.firstCells sz q tv).run P w.drew = .ok news.toArray w.drew := by
  intro ad q c news hl hc he
  subst he
  exact ⟨by simp [Builtin.lenOf], run_firstCells_some w sz q ad q c news hl hc, run_firstCells_some w.drew sz q ad q c news hl (by simpa using hc)⟩
 have nil' : tv = .slice none 0 0 → (Builtin.lenOf tv).run P w = .ok 0 w ∧ (Builtin.firstCells sz 0 tv).run P w = .ok (#[] : Array Value) w ∧ (Builtin.firstCells sz 0 tv).run P w.drew = .ok (#[] : Array Value) w.drew := by
  intro he; subst he
  exact ⟨by simp [Builtin.lenOf], by simp [Builtin.firstCells], by simp [Builtin.firstCells]⟩
 unfold newsOf at h
 split at h
 ·rename_i j q
  split at h
  case h_2 => exact h.elim
  rename_i ty m ds F hl
  obtain ⟨rfl, h⟩ := h
  have ht : OwnS P w (β j) m tv := ht
  refine ⟨m, ds, F, h, fun hlen hsz => ?_⟩
  rcases hs.objs j _ hl with ⟨h1, h2, h3⟩ | ⟨b, vs, hd, junk, G, lh, h1, h2, hlh, h3, h4, h5, h6, h7⟩
  ·rw [h1] at ht
   subst h2 h3
   exact ⟨[], [], rfl, by simp, fun Fs e => ⟨Sb.nil _, trivial⟩, nil' ht.2⟩
  ·rw [h1] at ht
   obtain ⟨cap, cs, ty', lh, he, _⟩ := ht
   refine ⟨hd, G, h4, h5, h6.1, some' _ _ _ _ (by rw [h4.length, hlen]) (fun i v hv => ?_) he⟩
   rw [add_lit0, cell_of_row w b _ vs _ _ h2, Nat.zero_add]
   have : vs.toList[i]? = some v := by rw [h3, List.getElem?_append_left (List.getElem?_eq_some_iff.1 hv).1]; exact hv
   simpa using this
 ·rename_i q ds F
  obtain ⟨G, ⟨ad, cap, he, h2, h3, h4, h5⟩, h6, h7⟩ := ht
  refine ⟨q, ds, F, h, fun hlen hsz => ?_⟩
  rcases h5 with ⟨rfl, rfl⟩ | ⟨hne, b, off, F', rfl, h8, rfl⟩
  ·have hq : q = 0 := by
    rcases Nat.mul_eq_zero.1 (by simpa using hlen.symm) with e | e <;> omega
   subst hq
   refine ⟨[], [], rfl, by simp, fun Fs e => ⟨Sb.nil _, trivial⟩, ?_⟩
   cases ad with
   | none => exact nil' (by rw [he, h4 rfl])
   | some ad => exact some' ad 0 cap [] (by simp) (by simp) he
  ·obtain ⟨vs, h9, h10⟩ := h8.vals
   refine ⟨vs, F', h10, fun x hx => h6 x (by simp [hx]), fun Fs e => ⟨fun x => ?_, ?_⟩, some' _ _ _ _ (by rw [h10.length, hlen]) (fun i v hv => by rw [add_lit0]; exact h9 i v hv) he⟩
   ·have := (h7 Fs e).1 x
    rw [List.count_cons] at this; omega
   ·obtain ⟨a', cap', e', _, hw⟩ := (h7 Fs e).2
    rw [he] at e'
    injection e' with e1 e2 e3
    rcases hw with hw | ⟨b', cs, ty, lh, sz', e4, _, _, _, hw⟩
    ·exact absurd hw hne
    ·rw [e4] at e1
     injection e1 with e1
     injection e1 with e1 e5
     subst e1 e5
     exact WhR.vals (by rw [h10.length]) (fun j v hj => h9 j v hj) hw
 ·refine ⟨0, [], some [], h, fun _ _ => ⟨[], [], rfl, by simp, fun Fs e => ⟨Sb.nil _, trivial⟩, nil' ht.1⟩⟩
 ·rename_i str
  obtain ⟨rfl, _⟩ := ht
  refine ⟨str.size, _, _, h, fun hlen hsz => ⟨Lib.strCells str, [], bytesD_vals w str, by simp, fun Fs e => ⟨Sb.nil _, bytesD_wh _ _⟩, by simp [Builtin.lenOf], ?_, ?_⟩⟩
  ·exact Lib.run_firstCells_string w sz str
  ·exact Lib.run_firstCells_string w.drew sz str
 ·exact h.elim
theorem tell_spec {p F : Fp} {Fs : List (List Nat)} (h : tell p F = some Fs) : F = some Fs := by cases p <;> simp_all [tell]
theorem append_step {o : Oper} {T U : Nat} {dU : TypeDesc} {s t : Operand} (ho : o.op = .call { callee := .builtin .append, args := #[s, t], argTypes := #[T, U] }) (hU : P.underlying U = some dU) (hUd : ∀ k, dU ≠ .int k) (hoks : okOpd s = true) (hokt : okOpd t = true) (hn : n ≤ 10000) (hs : Sim P n w0 ok0 own0 β f L p a w)
 (hzero : ∀ e sz by', elemS P T = some (e, sz, by') → ∃ zs, zerosOf P e sz 1 = some zs)
 (h : dAppend P n o.dst T (ev f s) (ev f t) K f L p) (hK : Abs P n w0 ok0 own0 β L a w o.dst.toList K Ka) : o.wp P a w Ka Q := by
 have hsv := ev_rel hs hoks
 have htv := ev_rel hs hokt
 unfold dAppend at h
 split at h
 ·exact h.elim
 rename_i e sz bytes hes
 obtain ⟨hu, i, hi, hsz, hbs⟩ := elemS_spec hes
 obtain ⟨zs, hzs⟩ := hzero _ _ _ hes
 obtain ⟨zv, hzv, hzl, _⟩ := zerosOf_spec hzs w
 have hzi : i.zero = some zv := by
  simp only [zeroValue, typeInfo, Sem.run_bind, run_program, Result.andThen_ok, hi, Sem.run_pure] at hzv
  cases hz : i.zero with
  | none => simp [hz] at hzv
  | some q => simp only [hz, Sem.run_pure, Result.ok.injEq, and_true] at hzv; rw [hzv]
 obtain ⟨q, es, G, ⟨hsz0, hesl, hap⟩, hnews⟩ := newsOf_spec (sz := sz) hs htv h
 clear h
 obtain ⟨news, H, hnv, hH, hGH, hq, hf, hfd⟩ := hnews hesl hsz0
 subst hsz hbs
 have hnl : news.length = q * i.size := by rw [hnv.length, hesl]
 have hex : ∀ {v w'}, (Builtin.append_ #[T, U] o.type #[a.eval s, a.eval t]).run P w = .ok v w' → (execOp a.eval o).run P w = .ok (.value v) w' := by
  intro v w' hr
  simp [execOp, ho, resolve, invoke, builtin, hr]
 have hone' : ∀ u ∈ news, u.oneCell' = true := fun u hu => by rw [oneCell_eq]; exact hnv.oneCell u hu
 have hinfo : ∀ s', (P.info? e).map (·.size) = some s' → s' = i.size := fun s' h' => by simp only [hi, Option.map_some, Option.some.injEq] at h'; omega
 have grow : ∀ (base : Option Addr) (ln cp : Nat) (olds : List Value) (ds : List D) (F : Fp) (G0 : List Nat) (is : List Nat), a.eval s = .slice base ln cp → ValsF w ds olds G0 → (∀ b ∈ G0, okB w0 ok0 L β b) → TlL w ds olds G0 F → ds.length = ln * i.size →
  (Builtin.firstCells i.size ln (.slice base ln cp)).run P w.drew = .ok olds.toArray w.drew → cp < ln + q → room (ln + q) i.bytes →
  create n o.dst is (.arr e (ln + q) (ds ++ es) (tell p (joinF F G))) (fun d => .s d (ln + q)) K f L p → o.wp P a w Ka Q := by
  intro base ln cp olds ds F G0 is hev hov hG0 hF hdl hfo hlt hroom hk
  obtain ⟨hml, hby⟩ := hroom
  have hol : olds.length = ln * i.size := by rw [hov.length, hdl]
  have hml' := hml
  simp only [maxLen] at hml'
  have hr := run_append_grow_u (P := P) w T U o.type e dU i zv hu hU hUd hi hzi base ln cp olds hfo (a.eval t) q news hq hfd hlt (by omega) (growslice_fits hlt hby)
  have hge := grownCap_ge w (ln + q) cp e
  have hle := grownCap_le_maxLen w (ln + q) cp e hml
  rw [← hev] at hr
  have hsd : Sim P n w0 ok0 own0 β f L p a w.drew := ⟨hs.size, hs.defers, fun j => RelS.st (w := w) (w' := w.drew) ⟨fun _ _ h => ⟨rfl, h⟩, fun _ cs _ lh hc => ⟨cs, lh, hc, rfl⟩⟩ (hs.slots j), fun j ob hj => RelO.st (w := w) (w' := w.drew) ⟨fun _ _ h => ⟨rfl, h⟩, fun _ cs _ lh hc => ⟨cs, lh, hc, rfl⟩⟩ (hs.objs j ob hj) (fun _ _ => rfl), hs.inj, hs.old, hs.sub, hs.frame, hs.wd, hs.outer, hs.pool⟩
  refine create_sound (mk := fun d => .s d (ln + q)) (w := w.drew) (w1 := w) hn hsd (hex hr) (fun d _ hβ hst => ?_) (fun d _ ok' => ?_) hk (fun β' f'' L'' p'' a' w' q1 q2 q3 _ q4 => hK _ _ _ _ _ _ q1 q2 ⟨q3.size, q3.keep, q3.own, q3.cells⟩ q4)
  ·refine arr_new (hd := olds ++ news) (G := G0 ++ H) (junk := (Builtin.zeroCells zv.cells (grownCap w (ln + q) cp e - (ln + q))).toList) hi rfl hst (Go.Vc.ValsF.monoF (m := w) (m' := w.drew) (fun _ _ => rfl) (hov.join hnv)) (fun b hb => (List.mem_append.1 hb).elim (hG0 b) (hH b)) (fun Fs e => ?_) (fun _ => ⟨fun e => by omega, hsz0⟩) (by simp) (Go.heap_alloc_new _ _) (Lh.zero _) (by simp) (by rw [List.length_append, hdl, hesl, Nat.add_mul])
   obtain ⟨x1, x2, e1, e2, rfl⟩ := joinF_spec (tell_spec e)
   rw [List.flatten_append]; exact ⟨(hF x1 e1).1.append (hGH x2 e2).1, WhL.monoF (w := w) (w' := w.drew) (fun _ _ => rfl) (hov.join hnv) ((hF x1 e1).2.append (hGH x2 e2).2)⟩
  ·show OwnS P _ (if d = d then _ else β d) (ln + q) _
   rw [if_pos rfl]
   refine ⟨grownCap w (ln + q) cp e, _, e, (0, 0), rfl, hge, hle, Go.heap_alloc_new _ _, fun s' hss => ?_⟩
   rw [hinfo s' hss]
   have hzc := zeroCells_len zv.cells (grownCap w (ln + q) cp e - (ln + q))
   simp only [Array.size_append, List.size_toArray, hzc, hol, hnl, hzl, ← Nat.add_mul]
   exact Nat.mul_le_mul_right _ (by omega)
 have nil0 : ∀ (is : List Nat) (F : Fp), a.eval s = .slice none 0 0 → q = 0 → create n o.dst is (.arr e 0 [] F) (fun d => .s d 0) K f L p → o.wp P a w Ka Q := by
  intro is F hev hq0 hk
  subst hq0
  have hnews : news = [] := List.eq_nil_of_length_eq_zero (by simpa using hnl)
  subst hnews
  have hd' : (match dU with | .int _ => true | _ => false) = false := by cases dU <;> first | rfl | exact absurd rfl (hUd _)
  have hr : (Builtin.append_ #[T, U] o.type #[a.eval s, a.eval t]).run P w = .ok (.slice none 0 0) w := by
   rw [hev]
   simp [Builtin.append_, run_underlying hu, run_underlying hU, hd', sizeOf, typeInfo, hi, hq, hf]
  unfold create at hk
  cases hd : o.dst with
  | none => simp [hd] at hk
  | some d =>
   simp only [hd] at hk
   split at hk
   case isFalse => exact hk.elim
   rename_i hdn
   have hfd := fam_lt hn hdn
   obtain ⟨h1, h2⟩ := hs.place (g := none) (x := .c (.s d 0)) (v := .slice none 0 0) (w' := w) (is := is) (ob := kO [d] is (.arr e 0 [] F)) (Wd.refl w) ⟨rfl, rfl, rfl⟩ (fun b hb _ => rfl)
    (fun b e => by cases e) hfd (fun _ _ => .inl ⟨by simp, rfl, rfl⟩) (by show OwnS P w (if d = d then none else β d) 0 _; rw [if_pos rfl]; exact ⟨rfl, rfl⟩) hdn
   refine wp_value (hex hr) ?_
   rw [hd]
   exact hK _ _ _ _ _ _ h1 (by rw [hd]; exact keep_place a d _ hfd _) h2 hk
 have fromNil : ∀ (is : List Nat) (F : Fp), a.eval s = .slice none 0 0 → room q i.bytes → create n o.dst is (.arr e q es (tell p (joinF F G))) (fun d => .s d q) K f L p → o.wp P a w Ka Q := by
  intro is F hev hroom hk
  rcases Nat.eq_zero_or_pos q with hq0 | hpos
  ·refine nil0 is (tell p (joinF F G)) hev hq0 ?_
   have : es = [] := List.eq_nil_of_length_eq_zero (by rw [hesl, hq0]; simp)
   rw [this, hq0] at hk; exact hk
  ·refine grow none 0 0 [] [] F [] is hev rfl (by simp) (fun _ _ => ⟨Sb.nil _, trivial⟩) (by simp) (by simp [Builtin.firstCells]) (by omega) (by simpa using hroom) (by simpa using hk)
 split at hap
 ·rename_i i' m hevs
  rw [hevs] at hsv
  have hsv : OwnS P w (β i') m (a.eval s) := hsv
  split at hap
  case h_2 => exact hap.elim
  rename_i ty m' ds F hl
  obtain ⟨rfl, rfl, hroom, hk⟩ := hap
  rcases hs.objs i' _ hl with ⟨h1, h2, h3⟩ | ⟨b, vs, hd, junk, G0, lh, h1, h2, hlh, h3, h4, h5, h6, h7⟩
  ·rw [h1] at hsv
   subst h2 h3
   refine fromNil [i'] F hsv.2 (by simpa using hroom) (by simpa using hk)
  ·rw [h1] at hsv
   obtain ⟨cap, cs, ty', lh', hev, hmc, hcm, hc, hcap⟩ := hsv
   rw [h2] at hc
   injection hc with hc; injection hc with e1 e2 e3
   subst e1 e2 e3
   have hdl := h7 i.size (by simp [hi])
   have hcap := hcap i.size (by simp [hi])
   have hhl : hd.length = m' * i.size := by rw [h4.length, hdl]
   have hvl : vs.size = hd.length + junk.length := by simpa using congrArg List.length h3
   have htake : vs.toList.take (m' * i.size) = hd := by rw [h3, ← hhl, List.take_left']; rfl
   have hcell : ∀ k v, hd[k]? = some v → w.cell? ⟨b, k, none⟩ = some v := fun k v hv => by
    rw [cell_of_row w b _ vs _ _ h2]
    have : vs.toList[k]? = some v := by rw [h3, List.getElem?_append_left (List.getElem?_eq_some_iff.1 hv).1]; exact hv
    simpa using this
   by_cases hr : m' + q ≤ cap
   ·have hfit : m' * i.size + news.length ≤ vs.size := by
     rw [hnl, ← Nat.add_mul]; exact Nat.le_trans (Nat.mul_le_mul_right _ hr) hcap
    have hrun := run_append_room_lh (P := P) w T U o.type ty dU i hu hU hUd hi b m' cap vs lh h2 hlh (a.eval t) q news hq hf hone' hr hfit
    rw [← hev] at hrun
    unfold create at hk
    cases hd' : o.dst with
    | none => simp [hd'] at hk
    | some d =>
     simp only [hd'] at hk
     split at hk
     case isFalse => exact hk.elim
     rename_i hdn
     have hfd := fam_lt hn hdn
     have hh := setRow_heap w b vs (vs.toList.take (m' * i.size) ++ news ++ vs.toList.drop (m' * i.size + news.length)).toArray ty _ h2
     have hsize : (vs.toList.take (m' * i.size) ++ news ++ vs.toList.drop (m' * i.size + news.length)).toArray.size = vs.size := by simp; omega
     obtain ⟨k1, k2⟩ := hs.place (g := some b) (x := .c (.s d (m' + q))) (v := .slice (some ⟨b, 0, none⟩) (m' + q) cap) (is := [i']) (ob := kO [d] [i'] (.arr ty (m' + q) (ds ++ es) (tell p (joinF F G))))
      (w' := w.setRow b (vs.toList.take (m' * i.size) ++ news ++ vs.toList.drop (m' * i.size + news.length)).toArray) (Wd.setRow w b _) ⟨rfl, rfl, rfl⟩
      (fun x _ hx => setRow_other w b x _ fun e => hx (by rw [e])) (fun x e => by
       injection e with e; subst e
       exact ⟨.inr ⟨i', _, hl, by simp [hit, inN], h1⟩, _, _, _, hh, fun cs' ty' lh hc => by rw [h2] at hc; injection hc with hc; injection hc with e1 e2 e3; subst e1 e2 e3; exact ⟨rfl, hsize⟩⟩) hfd
      (fun hβ hst => arr_new (hd := hd ++ news) (G := G0 ++ H) (junk := vs.toList.drop (m' * i.size + news.length)) hi rfl hst (h4.join hnv) (fun b hb => (List.mem_append.1 hb).elim (h5 b) (hH b)) (fun Fs e => by
        obtain ⟨x1, x2, e1, e2, rfl⟩ := joinF_spec (tell_spec e)
        rw [List.flatten_append]; exact ⟨(h6.1 x1 e1).1.append (hGH x2 e2).1, (h6.1 x1 e1).2.append (hGH x2 e2).2⟩) (fun hn => ⟨fun e0 => by
        rw [hsize]
        exact (h6.2 (fun e => hn (by rw [e]; cases G <;> cases p <;> rfl))).1 (by omega), hsz0⟩) (by simp) hh (fun j hj => hlh j (by rw [hsize] at hj; exact hj)) (by simp [htake]) (by rw [List.length_append, hdl, hesl, Nat.add_mul]))
      (by
        show OwnS P _ (if d = d then some b else β d) (m' + q) _
        rw [if_pos rfl]
        exact ⟨cap, _, ty, lh, rfl, hr, hcm, hh, fun s' hss => by rw [hinfo s' hss, hsize]; exact hcap⟩) hdn
     refine wp_value (hex hrun) ?_
     rw [hd']
     exact hK _ _ _ _ _ _ k1 (by rw [hd']; exact keep_place a d _ hfd _) k2 hk
   ·refine grow (some ⟨b, 0, none⟩) m' cap hd ds F G0 [i'] hev h4 h5 h6.1 hdl ?_ (by omega) hroom hk
    refine run_firstCells_some w.drew i.size m' _ m' _ _ hhl (fun k v hv => ?_)
    rw [add_lit0, World.cell?_drew, Nat.zero_add]; exact hcell k v hv
 ·rename_i hevs
  rw [hevs] at hsv
  obtain ⟨hroom, hk⟩ := hap
  exact fromNil [] (some []) hsv.1 hroom (by cases G <;> simpa [joinF] using hk)
 ·exact hap.elim
end
end Go.Dv
namespace Go.Dv
open Go Go.RowKit
open Go.Vc (vis vis_of_cell CellF RowF ValsF D inN okV callable)
variable [Out]
def expC : Nat → List C → List C
 | _, [] => []
 | b, x :: r => (match x with | .ow _ m _ _ => .s b m | y => y) :: expC (b + 10000) r
def expO : Nat → List C → Ob
 | _, [] => []
 | b, x :: r => (match x with | .ow ty m ds F => [(b, .arr ty m ds F)] | _ => []) ++ expO (b + 10000) r
def expT : Nat → List (List C × Bool) → List (List C × Bool)
 | _, [] => []
 | b, (cs, t) :: r => (expC b cs, t) :: expT (b + 10000 * cs.length) r
def cellsS : S → List C
 | .c x => [x]
 | .ag cs => cs
 | .tu xs => xs.flatMap (·.1)
def expS (b : Nat) : S → S
 | .c x => (match expC b [x] with | [y] => .c y | _ => .c .dead)
 | .ag cs => .ag (expC b cs)
 | .tu xs => .tu (expT b xs)
def expA : Nat → List S → List S
 | _, [] => []
 | b, x :: r => expS b x :: expA (b + 1) r
def expAO : Nat → List S → Ob
 | _, [] => []
 | b, x :: r => expO b (cellsS x) ++ expAO (b + 1) r
def expB : Nat → List (List C) → Ob
 | _, [] => []
 | k, cs :: r => (9000 + k, .str (expC (9200 + k) cs)) :: (expO (9200 + k) cs ++ expB (k + 1) r)
def lent (args : List S) (objs : List (List C)) : Ob := expAO 9500 args ++ expB 0 objs
def back (r : S) (objs : List (List C)) : Ob := expO 9700 (cellsS r) ++ expB 0 objs
def fpC : C → List (List Nat)
 | .sl _ _ (some F) => F
 | .ow _ _ _ (some F) => F
 | _ => []
def fpL : List C → List (List Nat)
 | [] => []
 | x :: r => fpC x ++ fpL r
def fpB : List (List C) → List (List Nat)
 | [] => []
 | x :: r => fpL x ++ fpB r
def fps (r : S) (objs : List (List C)) : List (List Nat) := fpL (cellsS r) ++ fpB objs
def flatC : C → Bool
 | .v _ | .sl .. | .ow .. | .dead | .self => true
 | _ => false
def flatL : List C → Bool
 | [] => true
 | x :: r => flatC x && flatL r
def flatB : List (List C) → Bool
 | [] => true
 | x :: r => flatL x && decide (x.length ≤ 900) && flatB r
def flat (r : S) (objs : List (List C)) : Bool := flatL (cellsS r) && decide ((cellsS r).length ≤ 900) && flatB objs && decide (objs.length ≤ 50)
def RelA (P : Program) (w : World) (β : Nat → Option Nat) (ok : Nat → Prop) : List S → List Value → Prop
 | [], [] => True
 | x :: r, y :: t => RelS P w β ok x y ∧ RelA P w β ok r t
 | _, _ => False
structure Objs (P : Program) (w : World) (β : Nat → Option Nat) (ok : Nat → Prop) (L : Ob) : Prop where
 rel : ∀ i o, look L i = some o → RelO P w β ok i o
 inj : ∀ i j o o' b, look L i = some o → look L j = some o' → β i = some b → β j = some b → i = j
def okA (ok0 : Nat → Prop) (L : Ob) (β : Nat → Option Nat) (b : Nat) : Prop := ¬ ownB L β b ∧ ok0 b
def okR (w : World) (ok0 : Nat → Prop) (Lc : Ob) (βc : Nat → Option Nat) (L : Ob) (β : Nat → Option Nat) (b : Nat) : Prop := ¬ ownB L β b ∧ (b < w.heap.size → ok0 b ∨ ownB Lc βc b)
structure Post (P : Program) (w : World) (βc : Nat → Option Nat) (ok0 : Nat → Prop) (Lc : Ob) (nobj : Nat) (v : Value) (w' : World) (r : S) (objs : List (List C)) (β : Nat → Option Nat) : Prop where
 rel : RelS P w' β (okR w ok0 Lc βc (back r objs) β) (expS 9700 r) v
 obs : Objs P w' β (okR w ok0 Lc βc (back r objs) β) (back r objs)
 fix : ∀ k, k < nobj → β (9000 + k) = βc (9000 + k)
 len : objs.length = nobj
 tr : Tr Lc βc w (back r objs) β w'
 wd : Wd w w'
 outer : w'.os = w.os ∧ w'.tape = w.tape ∧ w'.output = w.output
 fresh : (fps r objs).flatten.Nodup ∧ ∀ b ∈ (fps r objs).flatten, (w.heap.size ≤ b ∨ ownB Lc βc b) ∧ (∃ cs t lh, w'.heap[b]? = some (.cells cs t lh) ∧ Lh cs.size lh) ∧ ¬ ownB (back r objs) β b
 flat : flat r objs = true
def Cl (P : Program) (g : FuncId) (args : List S) (objs : List (List C)) (R : S → List (List C) → Prop) : Prop :=
 callable P g = true ∧ ∀ (w : World) (β : Nat → Option Nat) (ok0 : Nat → Prop) (vs : List Value),
  RelA P w β (okA ok0 (lent args objs) β) (expA 9500 args) vs → Objs P w β (okA ok0 (lent args objs) β) (lent args objs) → GlW w (ownB (lent args objs) β) →
  Calls P g vs.toArray w fun e w' => ∃ v r objs' β', e = .returned v ∧ R r objs' ∧ Post P w β ok0 (lent args objs) objs.length v w' r objs' β'
structure PostT (P : Program) (w : World) (βc : Nat → Option Nat) (ok0 : Nat → Prop) (Lc : Ob) (nobj : Nat) (v : Value) (w' : World) (r : S) (objs : List (List C)) (β : Nat → Option Nat) (T : List Nat) : Prop where
 rel : RelS P w' β (okR w ok0 Lc βc (back r objs) β) (expS 9700 r) v
 obs : Objs P w' β (okR w ok0 Lc βc (back r objs) β) (back r objs)
 fix : ∀ k, k < nobj → β (9000 + k) = βc (9000 + k)
 len : objs.length = nobj
 tr : Tr Lc βc w (back r objs) β w'
 wd : Wd w w'
 outer : w'.os = w.os ∧ w'.tape = w.tape ∧ w'.output = w.output
 fresh : (fps r objs).flatten.Nodup ∧ ∀ b ∈ (fps r objs).flatten, (w.heap.size ≤ b ∨ ownB Lc βc b ∨ b ∈ T) ∧ (∃ cs t lh, w'.heap[b]? = some (.cells cs t lh) ∧ Lh cs.size lh) ∧ ¬ ownB (back r objs) β b
 flat : flat r objs = true
def ClT (P : Program) (g : FuncId) (args : List S) (objs : List (List C)) (T : List Nat) (R : S → List (List C) → Prop) : Prop :=
 callable P g = true ∧ ∀ (w : World) (β : Nat → Option Nat) (ok0 : Nat → Prop) (vs : List Value),
  RelA P w β (okA ok0 (lent args objs) β) (expA 9500 args) vs → Objs P w β (okA ok0 (lent args objs) β) (lent args objs) → GlW w (fun b => ownB (lent args objs) β b ∨ b ∈ T) →
  (T.Nodup ∧ ∀ b ∈ T, okA ok0 (lent args objs) β b ∧ ∃ cs t lh, w.heap[b]? = some (.cells cs t lh) ∧ Lh cs.size lh) →
  Calls P g vs.toArray w fun e w' => ∃ v r objs' β', e = .returned v ∧ R r objs' ∧ PostT P w β ok0 (lent args objs) objs.length v w' r objs' β' T
theorem Cl.toT {P : Program} {g : FuncId} {args : List S} {objs : List (List C)} {R : S → List (List C) → Prop} (h : Cl P g args objs R) : ClT P g args objs [] R :=
 ⟨h.1, fun w β ok0 vs ha ho hg _ => (h.2 w β ok0 vs ha ho (hg.mono (fun _ _ _ => rfl) fun _ h _ => .inl h)).mono fun _ _ ⟨v, r, os, β', h1, h2, q⟩ => ⟨v, r, os, β', h1, h2, ⟨q.rel, q.obs, q.fix, q.len, q.tr, q.wd, q.outer, ⟨q.fresh.1, fun b hb => ⟨(q.fresh.2 b hb).1.imp id .inl, (q.fresh.2 b hb).2⟩⟩, q.flat⟩⟩⟩
theorem ClT.cl {P : Program} {g : FuncId} {args : List S} {objs : List (List C)} {R : S → List (List C) → Prop} (h : ClT P g args objs [] R) : Cl P g args objs R :=
 ⟨h.1, fun w β ok0 vs ha ho hg => (h.2 w β ok0 vs ha ho (hg.mono (fun _ _ _ => rfl) (fun _ h _ => h.elim id (fun h => by cases h))) ⟨List.nodup_nil, fun b hb => by cases hb⟩).mono fun _ _ ⟨v, r, os, β', h1, h2, q⟩ => ⟨v, r, os, β', h1, h2, ⟨q.rel, q.obs, q.fix, q.len, q.tr, q.wd, q.outer, ⟨q.fresh.1, fun b hb => ⟨(q.fresh.2 b hb).1.imp id (fun h => h.elim id (fun h => by cases h)), (q.fresh.2 b hb).2⟩⟩, q.flat⟩⟩⟩
def plainC : C → Bool
 | .v _ | .sl _ _ none => true
 | _ => false
def plainL : List C → Bool
 | [] => true
 | x :: r => plainC x && plainL r
def ClN (P : Program) (g : FuncId) (args : List S) (R : List C → Prop) : Prop :=
 callable P g = true ∧ ∀ (w : World) (β : Nat → Option Nat) (ok : Nat → Prop) (vs : List Value), RelA P w β ok args vs → GlW w (fun _ => False) →
  Calls P g vs.toArray w fun e w' => ∃ b cs xs ty lh, e = .returned (.pointer (some ⟨b, 0, none⟩)) ∧ R cs ∧ noSelf cs = true ∧ w.heap.size ≤ b ∧ w'.heap[b]? = some (.cells xs ty lh) ∧ Lh xs.size lh ∧
   (∀ β', RelL P w' β' (fun x => x ≠ b ∧ (x < w.heap.size → ok x)) cs xs.toList) ∧ (∀ x, x < w.heap.size → w'.heap[x]? = w.heap[x]?) ∧ Wd w w' ∧ w'.os = w.os ∧ w'.tape = w.tape ∧ w'.output = w.output
def ClM (P : Program) (g : FuncId) (args : List S) (R : List C → List C × Bool → Prop) : Prop :=
 callable P g = true ∧ ∀ (w : World) (β : Nat → Option Nat) (ok : Nat → Prop) (vs : List Value), RelA P w β ok args vs → GlW w (fun _ => False) →
  Calls P g vs.toArray w fun e w' => ∃ b cs xs ty lh x v, e = .returned (.tuple #[.pointer (some ⟨b, 0, none⟩), v]) ∧ R cs x ∧ noSelf cs = true ∧ w.heap.size ≤ b ∧ w'.heap[b]? = some (.cells xs ty lh) ∧ Lh xs.size lh ∧
   (∀ β', RelL P w' β' (fun x => x ≠ b ∧ (x < w.heap.size → ok x)) cs xs.toList ∧ RelT1 P w' β' (fun x => x ≠ b ∧ (x < w.heap.size → ok x)) x v) ∧ (∀ x, x < w.heap.size → w'.heap[x]? = w.heap[x]?) ∧ Wd w w' ∧ w'.os = w.os ∧ w'.tape = w.tape ∧ w'.output = w.output
theorem Cl.mono {P : Program} {g : FuncId} {args : List S} {objs : List (List C)} {R R' : S → List (List C) → Prop} (h : Cl P g args objs R) (hr : ∀ r os, R r os → R' r os) : Cl P g args objs R' :=
 ⟨h.1, fun w β ok0 vs ha ho hg => (h.2 w β ok0 vs ha ho hg).mono fun _ _ ⟨v, r, objs', β', h1, h2, h3⟩ => ⟨v, r, objs', β', h1, hr _ _ h2, h3⟩⟩
def lk : List (Nat × Nat) → Nat → Option Nat
 | [], _ => none
 | (j, i) :: r, k => if j = k then some i else lk r k
def zipN : List Nat → List Nat → List (Nat × Nat)
 | i :: r, j :: t => (j, i) :: zipN r t
 | _, _ => []
def rhoC : C → C → List (Nat × Nat)
 | .p i _, .p j _ => [(j, i)]
 | .s i _, .s j _ => [(j, i)]
 | .fn _ a b, .fn _ a' b' => zipN a a' ++ zipN b b'
 | _, _ => []
def rhoL : List C → List C → List (Nat × Nat)
 | x :: r, y :: t => rhoC x y ++ rhoL r t
 | _, _ => []
def rhoS : S → S → List (Nat × Nat)
 | .c x, .c y => rhoC x y
 | .ag a, .ag b => rhoL a b
 | _, _ => []
def rhoA : List S → List S → List (Nat × Nat)
 | x :: r, y :: t => rhoS x y ++ rhoA r t
 | _, _ => []
def rhoB (L : Ob) : List (Nat × Nat) → Ob → List (Nat × Nat)
 | ρ, [] => ρ
 | ρ, (j, .str cs) :: r => (match lk ρ j with
  | some i => (match look L i with | some (.str cs') => rhoB L (ρ ++ rhoL cs' cs) r | _ => rhoB L ρ r)
  | none => rhoB L ρ r)
 | ρ, (_, .arr ..) :: r => rhoB L ρ r
def inP : List (Nat × Nat) → Nat → Nat → Bool
 | [], _, _ => false
 | (a, b) :: r, j, i => if a = j then (if b = i then true else inP r j i) else inP r j i
def nubP : List (Nat × Nat) → List (Nat × Nat)
 | [] => []
 | (j, i) :: r => if inP r j i = true then nubP r else (j, i) :: nubP r
def rho (L : Ob) (sargs args : List S) (objs : List (List C)) : List (Nat × Nat) := rhoB L (nubP (rhoA sargs (expA 9500 args))) (lent args objs)
def lePs (ρ : List (Nat × Nat)) : List Nat → List Nat → Prop
 | [], [] => True
 | i :: r, j :: t => lk ρ j = some i ∧ lePs ρ r t
 | _, _ => False
def leC (ρ : List (Nat × Nat)) (L : Ob) : C → C → Prop
 | _, .dead => True
 | .self, .self => True
 | .v (.slice none 0 0), .sl m ds _ => m = 0 ∧ ds = []
 | .v (.slice none 0 0), .s j m => m = 0 ∧ lk ρ j = none
 | .v x, .v y => x = y
 | .sl m ds F, .sl m' ds' F' => m = m' ∧ ds = ds' ∧ (F' = none ∨ F' = F)
 | .s i m, .sl m' ds' none => (match look L i with | some (.arr _ n ds _) => n = m ∧ m = m' ∧ ds = ds' | _ => False)
 | .s i m, .s j m' => m = m' ∧ lk ρ j = some i
 | .p i o, .p j o' => o = o' ∧ lk ρ j = some i
 | .q ds, .q ds' => ds = ds'
 | .fn g a b, .fn g' a' b' => g = g' ∧ lePs ρ a a' ∧ lePs ρ b b'
 | _, _ => False
def leL (ρ : List (Nat × Nat)) (L : Ob) : List C → List C → Prop
 | [], [] => True
 | x :: r, y :: t => leC ρ L x y ∧ leL ρ L r t
 | _, _ => False
def leS (ρ : List (Nat × Nat)) (L : Ob) : S → S → Prop
 | .c x, .c y => leC ρ L x y
 | .ag a, .ag b => leL ρ L a b
 | _, _ => False
def leA (ρ : List (Nat × Nat)) (L : Ob) : List S → List S → Prop
 | [], [] => True
 | x :: r, y :: t => leS ρ L x y ∧ leA ρ L r t
 | _, _ => False
def leO (ρ : List (Nat × Nat)) (L : Ob) : O → O → Prop
 | .str a, .str b => leL ρ L a b
 | .arr ty m ds F, .arr ty' m' ds' F' => ty = ty' ∧ m = m' ∧ ds = ds' ∧ (F' = none ∨ F' = F)
 | _, _ => False
def leB (ρ : List (Nat × Nat)) (L : Ob) : Ob → Prop
 | [] => True
 | (j, o) :: r => (match lk ρ j with
  | some i => (match look L i with | some o' => leO ρ L o' o | none => False)
  | none => (match o with | .arr _ m ds _ => m = 0 ∧ ds = [] | _ => False)) ∧ leB ρ L r
def brwC : C → C → List Nat
 | .s i _, .sl .. => [i]
 | _, _ => []
def brwL : List C → List C → List Nat
 | x :: r, y :: t => brwC x y ++ brwL r t
 | _, _ => []
def brwS : S → S → List Nat
 | .c x, .c y => brwC x y
 | .ag a, .ag b => brwL a b
 | _, _ => []
def brwA : List S → List S → List Nat
 | x :: r, y :: t => brwS x y ++ brwA r t
 | _, _ => []
def brwB (L : Ob) (ρ : List (Nat × Nat)) : Ob → List Nat
 | [] => []
 | (j, .str cs) :: r => (match lk ρ j with
  | some i => (match look L i with | some (.str cs') => brwL cs' cs | _ => [])
  | none => []) ++ brwB L ρ r
 | (_, .arr ..) :: r => brwB L ρ r
def brw (L : Ob) (ρ : List (Nat × Nat)) (sargs args : List S) (objs : List (List C)) : List Nat := brwA sargs (expA 9500 args) ++ brwB L ρ (lent args objs)
def nodupB : List Nat → Bool
 | [] => true
 | i :: r => !inN r i && nodupB r
def disjB (a b : List Nat) : Bool := match a with
 | [] => true
 | i :: r => !inN b i && disjB r b
def toldC : C → Bool
 | .sl _ _ none => false
 | .ow _ _ _ none => false
 | _ => true
def toldL : List C → Bool
 | [] => true
 | x :: r => toldC x && toldL r
def toldB : List (List C) → Bool
 | [] => true
 | x :: r => toldL x && toldB r
def used (L : Ob) : List (Nat × Nat) → List Nat
 | [] => []
 | (_, i) :: r => (match look L i with | some (.arr ..) => [i] | _ => []) ++ used L r
def nk (d k : Nat) : Nat := d + 10000000 * (k + 1)
def strs (ρ : List (Nat × Nat)) (d : Nat) : Nat → List (List C) → Ob
 | _, [] => []
 | k, cs :: r => (match lk ρ (9000 + k) with
  | some i => [(i, .str (expC (nk d k) cs))]
  | none => []) ++ (expO (nk d k) cs ++ strs ρ d (k + 1) r)
def addP (p : Po) (F : List (List Nat)) : Po := match p with | some ps => some (ps ++ F) | none => none
def after (ρ : List (Nat × Nat)) (n d : Nat) (r : S) (objs : List (List C)) (K : K0) : K0 := fun f L p =>
 K (upd (kR [d] (used L ρ) f) d (expS (d + 10000) r)) (expO (d + 10000) (cellsS r) ++ (strs ρ d 0 objs ++ kL [d] (used L ρ) L)) (addP p (fps r objs))
def famOk (L : Ob) (d : Nat) : List (Nat × Nat) → Bool
 | [] => true
 | (_, i) :: r => (match look L i with | some (.str _) => !(fam i == d) | _ => true) && famOk L d r
def splitP (p : Po) (T : List Nat) (p0 : Po) : Prop := (T = [] ∧ p0 = p) ∨ ∃ ps rest, p = some ps ∧ p0 = some rest ∧ Sb (T ++ rest.flatten) ps.flatten
structure CallOk (P : Program) (g : FuncId) (sargs : List S) (L : Ob) (args : List S) (objs : List (List C)) (T : List Nat) (R : S → List (List C) → Prop) : Prop where
 cl : ClT P g args objs T R
 few : args.length ≤ 100
 arg : leA (rho L sargs args objs) L sargs (expA 9500 args)
 obj : leB (rho L sargs args objs) L (lent args objs)
 once : nodupB ((rho L sargs args objs).map (·.2)) = true
 disj : disjB (brw L (rho L sargs args objs) sargs args objs) ((rho L sargs args objs).map (·.2)) = true
def fSs (i m : Nat) (x : C) : List S → List S
 | [] => []
 | y :: r => fS i m x y :: fSs i m x r
def frzL : List Nat → List S → (List S → K0) → K0
 | [], ss, k => k ss
 | i :: r, ss, k => frz i fun m x => frzL r (fSs i m x ss) k
def Call1 (q : Bool) (P : Program) (g : FuncId) (sargs : List S) (n : Nat) (d : Option Nat) (K : K0) : K0 := fun f L p =>
 match d with
 | some d => d < n ∧ ((∃ (args : List S) (objs : List (List C)) (T : List Nat) (p0 : Po) (R : S → List (List C) → Prop), CallOk P g sargs L args objs T R ∧ famOk L d (rho L sargs args objs) = true ∧ (q = true → lent args objs = []) ∧ splitP p T p0 ∧
  ∀ r objs', R r objs' → objs'.length = objs.length → (brw L (rho L sargs args objs) sargs args objs = [] ∨ (toldL (cellsS r) && toldB objs') = true) ∧
   after (rho L sargs args objs) n d r objs' K f L p0) ∨
  (∃ R, ClN P g sargs R ∧ ∀ cs, R cs → K (upd (kR [d] [] f) d (.c (.p d 0))) ((d, .str cs) :: kL [d] [] L) p) ∨
  ∃ R, ClM P g sargs R ∧ ∀ cs x, R cs x → K (upd (kR [d] [] f) d (.tu [([.p d 0], true), x])) ((d, .str cs) :: kL [d] [] L) p)
 | none => False
def CallQ (q : Bool) (P : Program) (g : FuncId) (sargs : List S) (n : Nat) (d : Option Nat) (K : K0) : K0 := fun f L p =>
 ∃ is, frzL is sargs (fun ss => Call1 q P g ss n d K) f L p
def CallK (P : Program) (g : FuncId) (sargs : List S) (n : Nat) (d : Option Nat) (K : K0) : K0 := CallQ false P g sargs n d K
theorem Call1.intro {q : Bool} {P : Program} {g : FuncId} {sargs : List S} {n d : Nat} {K : K0} {f : Rg} {L : Ob} {p : Po} {args : List S} {objs : List (List C)} {R : S → List (List C) → Prop} (h : Cl P g args objs R) (hd : d < n)
 (harg : args.length ≤ 100 ∧ leA (rho L sargs args objs) L sargs (expA 9500 args) ∧ leB (rho L sargs args objs) L (lent args objs) ∧ nodupB ((rho L sargs args objs).map (·.2)) = true ∧ disjB (brw L (rho L sargs args objs) sargs args objs) ((rho L sargs args objs).map (·.2)) = true ∧ famOk L d (rho L sargs args objs) = true ∧ (q = true → lent args objs = []))
 (hk : ∀ r objs', R r objs' → objs'.length = objs.length → (brw L (rho L sargs args objs) sargs args objs = [] ∨ (toldL (cellsS r) && toldB objs') = true) ∧ after (rho L sargs args objs) n d r objs' K f L p) : Call1 q P g sargs n (some d) K f L p :=
 ⟨hd, .inl ⟨args, objs, [], p, R, ⟨h.toT, harg.1, harg.2.1, harg.2.2.1, harg.2.2.2.1, harg.2.2.2.2.1⟩, harg.2.2.2.2.2.1, harg.2.2.2.2.2.2, .inl ⟨rfl, rfl⟩, hk⟩⟩
theorem CallQ.intro {q : Bool} {P : Program} {g : FuncId} {sargs : List S} {n d : Nat} {K : K0} {f : Rg} {L : Ob} {p : Po} {args : List S} {objs : List (List C)} {R : S → List (List C) → Prop} (h : Cl P g args objs R) (hd : d < n)
 (harg : args.length ≤ 100 ∧ leA (rho L sargs args objs) L sargs (expA 9500 args) ∧ leB (rho L sargs args objs) L (lent args objs) ∧ nodupB ((rho L sargs args objs).map (·.2)) = true ∧ disjB (brw L (rho L sargs args objs) sargs args objs) ((rho L sargs args objs).map (·.2)) = true ∧ famOk L d (rho L sargs args objs) = true ∧ (q = true → lent args objs = []))
 (hk : ∀ r objs', R r objs' → objs'.length = objs.length → (brw L (rho L sargs args objs) sargs args objs = [] ∨ (toldL (cellsS r) && toldB objs') = true) ∧ after (rho L sargs args objs) n d r objs' K f L p) : CallQ q P g sargs n (some d) K f L p := ⟨[], Call1.intro h hd harg hk⟩
theorem Call1.introT {q : Bool} {P : Program} {g : FuncId} {sargs : List S} {n d : Nat} {K : K0} {f : Rg} {L : Ob} {args : List S} {objs : List (List C)} {R : S → List (List C) → Prop} {T : List Nat} {ps : List (List Nat)} (rest : List (List Nat)) (h : ClT P g args objs T R) (hd : d < n)
 (harg : args.length ≤ 100 ∧ leA (rho L sargs args objs) L sargs (expA 9500 args) ∧ leB (rho L sargs args objs) L (lent args objs) ∧ nodupB ((rho L sargs args objs).map (·.2)) = true ∧ disjB (brw L (rho L sargs args objs) sargs args objs) ((rho L sargs args objs).map (·.2)) = true ∧ famOk L d (rho L sargs args objs) = true ∧ (q = true → lent args objs = []))
 (hsp : Sb (T ++ rest.flatten) ps.flatten)
 (hk : ∀ r objs', R r objs' → objs'.length = objs.length → (brw L (rho L sargs args objs) sargs args objs = [] ∨ (toldL (cellsS r) && toldB objs') = true) ∧ after (rho L sargs args objs) n d r objs' K f L (some rest)) : Call1 q P g sargs n (some d) K f L (some ps) :=
 ⟨hd, .inl ⟨args, objs, T, some rest, R, ⟨h, harg.1, harg.2.1, harg.2.2.1, harg.2.2.2.1, harg.2.2.2.2.1⟩, harg.2.2.2.2.2.1, harg.2.2.2.2.2.2, (.inr ⟨ps, rest, rfl, rfl, hsp⟩), hk⟩⟩
theorem CallQ.introT {q : Bool} {P : Program} {g : FuncId} {sargs : List S} {n d : Nat} {K : K0} {f : Rg} {L : Ob} {args : List S} {objs : List (List C)} {R : S → List (List C) → Prop} {T : List Nat} {ps : List (List Nat)} (rest : List (List Nat)) (h : ClT P g args objs T R) (hd : d < n)
 (harg : args.length ≤ 100 ∧ leA (rho L sargs args objs) L sargs (expA 9500 args) ∧ leB (rho L sargs args objs) L (lent args objs) ∧ nodupB ((rho L sargs args objs).map (·.2)) = true ∧ disjB (brw L (rho L sargs args objs) sargs args objs) ((rho L sargs args objs).map (·.2)) = true ∧ famOk L d (rho L sargs args objs) = true ∧ (q = true → lent args objs = []))
 (hsp : Sb (T ++ rest.flatten) ps.flatten)
 (hk : ∀ r objs', R r objs' → objs'.length = objs.length → (brw L (rho L sargs args objs) sargs args objs = [] ∨ (toldL (cellsS r) && toldB objs') = true) ∧ after (rho L sargs args objs) n d r objs' K f L (some rest)) : CallQ q P g sargs n (some d) K f L (some ps) := ⟨[], Call1.introT rest h hd harg hsp hk⟩
theorem callF {q : Bool} {P : Program} {g : FuncId} {sargs : List S} {n : Nat} {d : Option Nat} {K : K0} {f : Rg} {L : Ob} {p : Po} (is : List Nat) (h : frzL is sargs (fun ss => Call1 q P g ss n d K) f L p) : CallQ q P g sargs n d K f L p := ⟨is, h⟩
end Go.Dv
namespace Go.Dv
open Go Go.RowKit
open Go.Vc (vis vis_of_cell CellF RowF ValsF D inN okV callable wp_value)
variable [Out]
theorem fam_add (b j : Nat) : fam (b + 10000 * j) = fam b := by simp [fam]
theorem fam_fam {d : Nat} (h : d < 10000) : fam d = d := Nat.mod_eq_of_lt h
theorem look_append (A B : Ob) (i : Nat) : look (A ++ B) i = (look A i).or (look B i) := by
 induction A with
 | nil => simp [look]
 | cons p r ih => obtain ⟨j, o⟩ := p; simp only [List.cons_append, look]; split <;> simp_all
theorem look_expO : ∀ {cs : List C} {b i : Nat} {o : O}, look (expO b cs) i = some o → ∃ j ty m ds F, i = b + 10000 * j ∧ cs[j]? = some (.ow ty m ds F) ∧ o = .arr ty m ds F
 | [], b, i, o, h => by simp [expO, look] at h
 | x :: r, b, i, o, h => by
  simp only [expO, look_append] at h
  have next : look (expO (b + 10000) r) i = some o → ∃ j ty m ds F, i = b + 10000 * j ∧ (x :: r)[j]? = some (.ow ty m ds F) ∧ o = .arr ty m ds F := by
   intro h
   obtain ⟨j, ty, m, ds, F, h1, h2, h3⟩ := look_expO h
   exact ⟨j + 1, ty, m, ds, F, by rw [h1, Nat.mul_add]; omega, by simpa using h2, h3⟩
  cases x with
  | ow ty m ds F =>
   simp only [look] at h
   by_cases hi : b = i
   ·simp [hi] at h; exact ⟨0, ty, m, ds, F, by omega, rfl, h.symm⟩
   ·simp [hi] at h; exact next h
  | _ => simp [look] at h; exact next h
theorem look_expO' : ∀ {cs : List C} {b j : Nat} {ty m ds F}, cs[j]? = some (.ow ty m ds F) → look (expO b cs) (b + 10000 * j) = some (.arr ty m ds F)
 | [], b, j, _, _, _, _, h => by simp at h
 | x :: r, b, 0, ty, m, ds, F, h => by simp at h; subst h; simp [expO, look_append, look]
 | x :: r, b, j + 1, ty, m, ds, F, h => by
  have ih := look_expO' (b := b + 10000) (by simpa using h : r[j]? = some (.ow ty m ds F))
  have e : b + 10000 * (j + 1) = b + 10000 + 10000 * j := by omega
  simp only [expO, look_append]
  rw [e, ih]
  have hne : ¬ b = b + 10000 + 10000 * j := by omega
  cases x with
  | ow ty' m' ds' F' => simp only [look, if_neg hne]; rfl
  | _ => simp [look]
theorem look_expB : ∀ {objs : List (List C)} {k i : Nat} {o : O}, look (expB k objs) i = some o →
 (∃ t cs, objs[t]? = some cs ∧ i = 9000 + (k + t) ∧ o = .str (expC (9200 + (k + t)) cs)) ∨ (∃ t cs j ty m ds F, objs[t]? = some cs ∧ cs[j]? = some (.ow ty m ds F) ∧ i = 9200 + (k + t) + 10000 * j ∧ o = .arr ty m ds F)
 | [], k, i, o, h => by simp [expB, look] at h
 | cs :: r, k, i, o, h => by
  simp only [expB, look] at h
  split at h
  ·rename_i e
   injection h with h
   exact .inl ⟨0, cs, rfl, by omega, by rw [← h]; simp⟩
  ·rw [look_append] at h
   cases h1 : look (expO (9200 + k) cs) i with
   | some o' =>
    simp [h1] at h; subst h
    obtain ⟨j, ty, m, ds, F, h2, h3, h4⟩ := look_expO h1
    exact .inr ⟨0, cs, j, ty, m, ds, F, rfl, h3, by omega, h4⟩
   | none =>
    simp [h1] at h
    rcases look_expB h with ⟨t, cs', h2, h3, h4⟩ | ⟨t, cs', j, ty, m, ds, F, h2, h3, h4, h5⟩
    ·exact .inl ⟨t + 1, cs', by simpa using h2, by omega, by rw [h4]; congr 2; omega⟩
    ·exact .inr ⟨t + 1, cs', j, ty, m, ds, F, by simpa using h2, h3, by omega, h5⟩
theorem look_expB_str : ∀ {objs : List (List C)} {k t : Nat} {cs : List C}, objs[t]? = some cs → k + objs.length ≤ 100 → look (expB k objs) (9000 + (k + t)) = some (.str (expC (9200 + (k + t)) cs))
 | [], _, _, _, h, _ => by simp at h
 | c :: r, k, 0, cs, h, _ => by simp at h; subst h; simp [expB, look]
 | c :: r, k, t + 1, cs, h, hl => by
  have ih := look_expB_str (k := k + 1) (by simpa using h : r[t]? = some cs) (by simp at hl; omega)
  have e : 9000 + (k + (t + 1)) = 9000 + (k + 1 + t) := by omega
  have e2 : 9200 + (k + (t + 1)) = 9200 + (k + 1 + t) := by omega
  rw [e, e2]
  simp only [expB, look]
  rw [if_neg (by omega), look_append, ih]
  have : look (expO (9200 + k) c) (9000 + (k + 1 + t)) = none := by
   cases hx : look (expO (9200 + k) c) (9000 + (k + 1 + t)) with
   | none => rfl
   | some o =>
    obtain ⟨j, _, _, _, _, h1, _⟩ := look_expO hx
    have ht := (List.getElem?_eq_some_iff.1 h).1
    simp at hl ht
    omega
  rw [this]; rfl
theorem look_expB_arr : ∀ {objs : List (List C)} {k t j : Nat} {cs : List C} {ty m ds F}, objs[t]? = some cs → cs[j]? = some (.ow ty m ds F) → k + objs.length ≤ 100 → look (expB k objs) (9200 + (k + t) + 10000 * j) = some (.arr ty m ds F)
 | [], _, _, _, _, _, _, _, _, h, _, _ => by simp at h
 | c :: r, k, 0, j, cs, ty, m, ds, F, h, hj, hl => by
  simp at h; subst h
  simp only [expB, look]
  simp at hl
  rw [if_neg (by omega), look_append]
  have := look_expO' (b := 9200 + k) hj
  rw [Nat.add_zero, this]; rfl
 | c :: r, k, t + 1, j, cs, ty, m, ds, F, h, hj, hl => by
  have ih := look_expB_arr (k := k + 1) (by simpa using h : r[t]? = some cs) hj (by simp at hl; omega)
  have e : 9200 + (k + (t + 1)) + 10000 * j = 9200 + (k + 1 + t) + 10000 * j := by omega
  rw [e]
  have ht := (List.getElem?_eq_some_iff.1 h).1
  simp at hl ht
  simp only [expB, look]
  rw [if_neg (by omega), look_append, ih]
  have : look (expO (9200 + k) c) (9200 + (k + 1 + t) + 10000 * j) = none := by
   cases hx : look (expO (9200 + k) c) (9200 + (k + 1 + t) + 10000 * j) with
   | none => rfl
   | some o =>
    obtain ⟨j', _, _, _, _, h1, _⟩ := look_expO hx
    omega
  rw [this]; rfl
end Go.Dv
namespace Go.Dv
open Go Go.RowKit
open Go.Vc (vis vis_of_cell CellF RowF ValsF D inN okV callable wp_value)
variable [Out]
theorem inN_iff {ws : List Nat} {i : Nat} : inN ws i = true ↔ i ∈ ws := Go.Vc.inN_iff
theorem nodupB_spec : ∀ {l : List Nat}, nodupB l = true → l.Nodup
 | [], _ => List.nodup_nil
 | i :: r, h => by
  simp only [nodupB, Bool.and_eq_true, Bool.not_eq_true'] at h
  exact List.nodup_cons.2 ⟨(fun e => by rw [inN_iff.2 e] at h; cases h.1), nodupB_spec h.2⟩
theorem disjB_spec : ∀ {a b : List Nat}, disjB a b = true → ∀ i ∈ a, i ∉ b
 | [], _, _, _, h => by cases h
 | i :: r, b, h, j, hj => by
  simp only [disjB, Bool.and_eq_true, Bool.not_eq_true'] at h
  rcases List.mem_cons.1 hj with rfl | hj
  ·exact fun e => by rw [inN_iff.2 e] at h; cases h.1
  ·exact disjB_spec h.2 j hj
theorem lk_mem : ∀ {ρ : List (Nat × Nat)} {j i : Nat}, lk ρ j = some i → (j, i) ∈ ρ
 | [], _, _, h => by simp [lk] at h
 | (a, b) :: r, j, i, h => by
  simp only [lk] at h
  split at h
  ·rename_i e; injection h with h; subst e h; simp
  ·exact List.mem_cons_of_mem _ (lk_mem h)
theorem nodup_snd : ∀ {ρ : List (Nat × Nat)}, (ρ.map (·.2)).Nodup → ∀ {j j' i : Nat}, (j, i) ∈ ρ → (j', i) ∈ ρ → j = j'
 | [], _, _, _, _, h, _ => by cases h
 | (a, b) :: r, hn, j, j', i, h, h' => by
  simp only [List.map_cons, List.nodup_cons] at hn
  rcases List.mem_cons.1 h with e | h
  ·rcases List.mem_cons.1 h' with e' | h'
   ·rw [Prod.mk.injEq] at e e'; exact e.1.trans e'.1.symm
   ·rw [Prod.mk.injEq] at e; exact absurd (List.mem_map.2 ⟨_, h', e.2⟩) hn.1
  ·rcases List.mem_cons.1 h' with e' | h'
   ·rw [Prod.mk.injEq] at e'; exact absurd (List.mem_map.2 ⟨_, h, e'.2⟩) hn.1
   ·exact nodup_snd hn.2 h h'
section
variable {P : Program} {n : Nat} {w0 : World} {ok0 own0 : Nat → Prop} {β : Nat → Option Nat} {f : Rg} {L : Ob} {p : Po} {a : Act} {w : World}
 {K : K0} {Ka : Act → World → Prop} {Q : Exit → Act → World → Prop}
def bc (ρ : List (Nat × Nat)) (β : Nat → Option Nat) (j : Nat) : Option Nat := (lk ρ j).bind β
def okc (w0 : World) (ok0 : Nat → Prop) (L : Ob) (β : Nat → Option Nat) (bs : List Nat) (b : Nat) : Prop := okB w0 ok0 L β b ∨ ∃ i ∈ bs, (∃ o, look L i = some o) ∧ β i = some b
theorem leB_spec {ρ : List (Nat × Nat)} : ∀ {A : Ob}, leB ρ L A → ∀ {j o}, look A j = some o →
 (∃ i o', lk ρ j = some i ∧ look L i = some o' ∧ leO ρ L o' o) ∨ (lk ρ j = none ∧ ∃ ty F, o = .arr ty 0 [] F)
 | [], _, j, o, h => by simp [look] at h
 | (k, ob) :: r, hl, j, o, h => by
  obtain ⟨h1, h2⟩ := hl
  simp only [look] at h
  split at h
  ·rename_i e; injection h with h; subst e h
   split at h1
   ·rename_i i hi
    split at h1
    ·rename_i o' ho'; exact .inl ⟨i, o', hi, ho', h1⟩
    ·exact h1.elim
   ·rename_i hi
    split at h1
    ·rename_i ty m ds F; obtain ⟨rfl, rfl⟩ := h1; exact .inr ⟨hi, ty, F, rfl⟩
    ·exact h1.elim
  ·exact leB_spec h2 h
variable {ρ : List (Nat × Nat)} {A : Ob} {bs : List Nat}
theorem ownB_lent (hB : leB ρ L A) {b : Nat} (h : ownB A (bc ρ β) b) : ∃ j i o o', look A j = some o ∧ lk ρ j = some i ∧ look L i = some o' ∧ leO ρ L o' o ∧ β i = some b := by
 obtain ⟨j, o, h1, h2⟩ := h
 rcases leB_spec hB h1 with ⟨i, o', h3, h4, h5⟩ | ⟨h3, _⟩
 ·exact ⟨j, i, o, o', h1, h3, h4, h5, by simpa [bc, h3] using h2⟩
 ·simp [bc, h3] at h2
theorem okB_okc (hB : leB ρ L A) {b : Nat} (h : okB w0 ok0 L β b) : okA (okc w0 ok0 L β bs) A (bc ρ β) b := by
 refine ⟨fun ho => ?_, .inl h⟩
 obtain ⟨j, i, o, o', _, _, h4, _, h5⟩ := ownB_lent hB ho
 exact h.1 ⟨i, o', h4, h5⟩
theorem brw_okc (hs : Sim P n w0 ok0 own0 β f L p a w) (hB : leB ρ L A) (hd : ∀ i ∈ bs, i ∉ ρ.map (·.2)) {i b : Nat} {o : O} (hi : i ∈ bs) (hl : look L i = some o) (h : β i = some b) : okA (okc w0 ok0 L β bs) A (bc ρ β) b := by
 refine ⟨fun ho => ?_, .inr ⟨i, hi, ⟨o, hl⟩, h⟩⟩
 obtain ⟨j, i', o1, o', _, h3, h4, _, h5⟩ := ownB_lent hB ho
 have := hs.inj i i' o o' b hl h4 h h5
 subst this
 exact hd i hi (List.mem_map.2 ⟨_, lk_mem h3, rfl⟩)
theorem lePs_rel : ∀ {l l' : List Nat} {vs : List Value}, lePs ρ l l' → Ptrs β l vs → Ptrs (bc ρ β) l' vs
 | [], [], [], _, _ => trivial
 | i :: r, j :: t, v :: vs, h, hp => by
  obtain ⟨⟨b, h1, h2⟩, h3⟩ := hp
  exact ⟨⟨b, by simp [bc, h.1, h1], h2⟩, lePs_rel h.2 h3⟩
 | [], [], _ :: _, _, hp => hp.elim
 | _ :: _, _, [], _, hp => hp.elim
 | [], _ :: _, _, h, _ => h.elim
 | _ :: _, [], _ :: _, h, _ => h.elim
theorem read_own (hs : Sim P n w0 ok0 own0 β f L p a w) {i m : Nat} {ty ds F} (hl : look L i = some (.arr ty m ds F)) {y : Value} (hy : OwnS P w (β i) m y) : ∃ H, CellF w (.sl m ds) y H ∧ ∀ b ∈ H, okB w0 ok0 L β b ∨ β i = some b := by
 rcases hs.objs i _ hl with ⟨h1, h2, h3⟩ | ⟨b, vs, hd, junk, G, lh, h1, h2, hlh, h3, h4, h5, h6, h7⟩
 ·rw [h1] at hy
  obtain ⟨hm, rfl⟩ := hy
  subst h3 hm
  exact ⟨[], ⟨none, 0, rfl, Nat.le_refl _, by simp [maxLen], fun _ => rfl, .inl ⟨rfl, rfl⟩⟩, fun b hb => by cases hb⟩
 ·rw [h1] at hy
  obtain ⟨cap, cs, ty', lh, rfl, h8, h9, _⟩ := hy
  cases ds with
  | nil => exact ⟨[], ⟨_, cap, rfl, h8, h9, (fun e => by cases e), .inl ⟨rfl, rfl⟩⟩, fun b hb => by cases hb⟩
  | cons d r =>
   have hrow : RowF w b 0 (d :: r) G := h4.row fun j v hj => by
    rw [cell_of_row w b (0 + j) vs _ _ h2]
    have : vs.toList[j]? = some v := by rw [h3, List.getElem?_append_left (List.getElem?_eq_some_iff.1 hj).1]; exact hj
    simpa using this
   refine ⟨b :: G, ⟨_, cap, rfl, h8, h9, (fun e => by cases e), .inr ⟨by simp, b, 0, G, rfl, hrow, rfl⟩⟩, fun x hx => ?_⟩
   rcases List.mem_cons.1 hx with rfl | hx
   ·exact .inr h1
   ·exact .inl (h5 x hx)
theorem leC_rel (hs : Sim P n w0 ok0 own0 β f L p a w) (hB : leB ρ L A) (hd : ∀ i ∈ bs, i ∉ ρ.map (·.2)) {x c : C} {y : Value} (hb : ∀ i ∈ brwC x c, i ∈ bs) (h : leC ρ L x c) (hr : RelC P w β (okB w0 ok0 L β) x y) :
 RelC P w (bc ρ β) (okA (okc w0 ok0 L β bs) A (bc ρ β)) c y := by
 have up := fun b => okB_okc (w0 := w0) (ok0 := ok0) (β := β) (bs := bs) hB (b := b)
 unfold leC at h
 split at h
 ·trivial
 ·exact hr
 ·obtain ⟨rfl, rfl⟩ := h
  obtain ⟨rfl, _⟩ := hr
  exact ⟨[], ⟨none, 0, rfl, Nat.le_refl _, by simp [maxLen], fun _ => rfl, .inl ⟨rfl, rfl⟩⟩, (fun b hb => by cases hb), (fun _ _ => ⟨Sb.nil _, none, 0, rfl, fun _ => rfl, .inl rfl⟩)⟩
 ·rename_i j m
  obtain ⟨rfl, h⟩ := h
  obtain ⟨rfl, _⟩ := hr
  show OwnS P w (bc ρ β j) 0 _
  simp only [bc, h, Option.bind_none]
  exact ⟨rfl, rfl⟩
 ·subst h; exact hr
 ·obtain ⟨rfl, rfl, hF⟩ := h
  obtain ⟨G, h1, h2, h3⟩ := hr
  refine ⟨G, h1, fun b hb => up b (h2 b hb), fun Fs e => ?_⟩
  rcases hF with rfl | rfl
  ·cases e
  ·exact h3 Fs e
 ·rename_i i m m' ds'
  split at h
  case h_2 => exact h.elim
  rename_i ty q ds F hl
  obtain ⟨rfl, rfl, rfl⟩ := h
  obtain ⟨H, h1, h2⟩ := read_own hs hl hr
  have hi : i ∈ bs := hb i (by simp [brwC])
  exact ⟨H, h1, fun b hb' => (h2 b hb').elim (up b) (brw_okc hs hB hd hi hl), (fun _ e => by cases e)⟩
 ·rename_i i m j m'
  obtain ⟨rfl, h⟩ := h
  show OwnS P w (bc ρ β j) m y
  simp only [bc, h, Option.bind_some]
  exact hr
 ·rename_i i off j off'
  obtain ⟨rfl, h⟩ := h
  obtain ⟨b, h1, h2⟩ := hr
  exact ⟨b, by simp [bc, h, h1], h2⟩
 ·subst h
  obtain ⟨b, o, G, h1, h2, h3, h4, h5⟩ := hr
  exact ⟨b, o, G, h1, h2, h3, up b h4, fun x hx => up x (h5 x hx)⟩
 ·obtain ⟨rfl, h1, h2⟩ := h
  obtain ⟨va, vb, h3, h4, h5⟩ := hr
  exact ⟨va, vb, h3, lePs_rel h1 h4, lePs_rel h2 h5⟩
 ·exact h.elim
theorem leL_rel (hs : Sim P n w0 ok0 own0 β f L p a w) (hB : leB ρ L A) (hd : ∀ i ∈ bs, i ∉ ρ.map (·.2)) : ∀ {x c : List C} {y : List Value}, (∀ i ∈ brwL x c, i ∈ bs) → leL ρ L x c → RelL P w β (okB w0 ok0 L β) x y →
 RelL P w (bc ρ β) (okA (okc w0 ok0 L β bs) A (bc ρ β)) c y
 | [], [], [], _, _, _ => trivial
 | x :: r, c :: t, y :: q, hb, h, hr => ⟨leC_rel hs hB hd (fun i hi => hb i (by simp [brwL, hi])) h.1 hr.1, leL_rel hs hB hd (fun i hi => hb i (by simp [brwL, hi])) h.2 hr.2⟩
 | [], [], _ :: _, _, _, hr => hr.elim
 | [], _ :: _, _, _, h, _ => h.elim
 | _ :: _, [], _, _, h, _ => h.elim
 | _ :: _, _ :: _, [], _, _, hr => hr.elim
theorem leL_get : ∀ {x c : List C} {k : Nat} {y : C}, leL ρ L x c → c[k]? = some y → ∃ z, x[k]? = some z ∧ leC ρ L z y
 | [], [], k, y, _, h => by simp at h
 | x :: r, c :: t, 0, y, h, hk => by simp at hk; subst hk; exact ⟨x, rfl, h.1⟩
 | x :: r, c :: t, k + 1, y, h, hk => by simpa using leL_get h.2 (by simpa using hk)
 | [], _ :: _, _, _, h, _ => h.elim
 | _ :: _, [], _, _, h, _ => h.elim
theorem leL_self {ty : TypeId} {ok : Nat → Prop} {b : Nat} {x c : List C} {vs : List Value} (h : leL ρ L x c) (hr : RelL P w β ok x vs) (hs : SelfOk b ty x vs) : SelfOk b ty c vs := fun k hk => by
 obtain ⟨z, h1, h2⟩ := leL_get h hk
 unfold leC at h2
 split at h2
 ·rename_i e; cases e
 ·exact hs k h1
 all_goals (first | (rename_i e; cases e) | (rename_i e _ ; cases e) | exact h2.elim | skip)
theorem leS_rel (hs : Sim P n w0 ok0 own0 β f L p a w) (hB : leB ρ L A) (hd : ∀ i ∈ bs, i ∉ ρ.map (·.2)) {x c : S} {y : Value} (hb : ∀ i ∈ brwS x c, i ∈ bs) (h : leS ρ L x c) (hr : RelS P w β (okB w0 ok0 L β) x y) :
 RelS P w (bc ρ β) (okA (okc w0 ok0 L β bs) A (bc ρ β)) c y := by
 cases x <;> cases c <;> simp only [leS] at h
 ·exact leC_rel hs hB hd hb h hr
 ·obtain ⟨vs, h1, h2⟩ := hr
  exact ⟨vs, h1, leL_rel hs hB hd hb h h2⟩
theorem leA_rel (hs : Sim P n w0 ok0 own0 β f L p a w) (hB : leB ρ L A) (hd : ∀ i ∈ bs, i ∉ ρ.map (·.2)) : ∀ {x c : List S} {y : List Value}, (∀ i ∈ brwA x c, i ∈ bs) → leA ρ L x c → RelA P w β (okB w0 ok0 L β) x y →
 RelA P w (bc ρ β) (okA (okc w0 ok0 L β bs) A (bc ρ β)) c y
 | [], [], [], _, _, _ => trivial
 | x :: r, c :: t, y :: q, hb, h, hr => ⟨leS_rel hs hB hd (fun i hi => hb i (by simp [brwA, hi])) h.1 hr.1, leA_rel hs hB hd (fun i hi => hb i (by simp [brwA, hi])) h.2 hr.2⟩
 | [], [], _ :: _, _, _, hr => hr.elim
 | [], _ :: _, _, _, h, _ => h.elim
 | _ :: _, [], _, _, h, _ => h.elim
 | _ :: _, _ :: _, [], _, _, hr => hr.elim
theorem brwB_mem : ∀ {A : Ob} {j i : Nat} {cs cs' : List C}, look A j = some (.str cs) → lk ρ j = some i → look L i = some (.str cs') → ∀ k ∈ brwL cs' cs, k ∈ brwB L ρ A
 | [], _, _, _, _, h, _, _, _, _ => by simp [look] at h
 | (q, ob) :: r, j, i, cs, cs', h, h1, h2, k, hk => by
  simp only [look] at h
  split at h
  ·rename_i e; injection h with h; subst e h
   simp only [brwB, h1, h2]; exact List.mem_append_left _ hk
  ·have := brwB_mem h h1 h2 k hk
   cases ob with
   | str cs2 => simp only [brwB]; exact List.mem_append_right _ this
   | arr ty m ds F => simp only [brwB]; exact this
theorem lent_objs (hs : Sim P n w0 ok0 own0 β f L p a w) (hB : leB ρ L A) (hn : nodupB (ρ.map (·.2)) = true) (hd : ∀ i ∈ bs, i ∉ ρ.map (·.2)) (hbs : ∀ i ∈ brwB L ρ A, i ∈ bs) :
 Objs P w (bc ρ β) (okA (okc w0 ok0 L β bs) A (bc ρ β)) A := by
 have up := fun b => okB_okc (w0 := w0) (ok0 := ok0) (β := β) (bs := bs) hB (b := b)
 refine ⟨fun j o hj => ?_, fun j j' o o' b hj hj' hb hb' => ?_⟩
 ·rcases leB_spec hB hj with ⟨i, o', h1, h2, h3⟩ | ⟨h1, ty, F, rfl⟩
  ·have hr := hs.objs i o' h2
   cases o' with
   | str cs' =>
    cases o with
    | arr => exact h3.elim
    | str cs =>
     obtain ⟨b, vs, ty, lh, h4, h5, hlh, hsf, h6⟩ := hr
     exact ⟨b, vs, ty, lh, by simp [bc, h1, h4], h5, hlh, leL_self h3 h6 hsf, leL_rel hs hB hd (fun k hk => hbs k (brwB_mem hj h1 h2 k hk)) h3 h6⟩
   | arr ty m ds F =>
    cases o with
    | str => exact h3.elim
    | arr ty' m' ds' F' =>
     obtain ⟨rfl, rfl, rfl, hF⟩ := h3
     rcases hr with ⟨h4, h5⟩ | ⟨b, vs, hd', junk, G, lh, h4, h5, hlh, h6, h7, h8, h9, h10⟩
     ·exact .inl ⟨by simp [bc, h1, h4], h5⟩
     ·refine .inr ⟨b, vs, hd', junk, G, lh, by simp [bc, h1, h4], h5, hlh, h6, h7, fun x hx => up x (h8 x hx), ?_, h10⟩
      rcases hF with rfl | rfl
      ·exact ⟨(fun _ e => by cases e), fun e => absurd rfl e⟩
      ·exact h9
  ·exact .inl ⟨by simp [bc, h1], rfl, rfl⟩
 ·rcases leB_spec hB hj with ⟨i, o1, h1, h2, h3⟩ | ⟨h1, _⟩
  ·rcases leB_spec hB hj' with ⟨i', o2, h4, h5, h6⟩ | ⟨h4, _⟩
   ·have := hs.inj i i' o1 o2 b h2 h5 (by simpa [bc, h1] using hb) (by simpa [bc, h4] using hb')
    subst this
    exact nodup_snd (nodupB_spec hn) (lk_mem h1) (lk_mem h4)
   ·simp [bc, h4] at hb'
  ·simp [bc, h1] at hb
end
end Go.Dv
namespace Go.Dv
open Go Go.RowKit
open Go.Vc (vis vis_of_cell CellF RowF ValsF D inN okV callable wp_value)
variable [Out]
section
variable {P : Program} {w : World} {β1 β2 : Nat → Option Nat} {ok1 ok2 : Nat → Prop}
def Up (w : World) (ok1 ok2 : Nat → Prop) (F : Fp) : Prop := ∀ G : List Nat, (∀ b ∈ G, ok1 b) → (∀ Fs, F = some Fs → Sb G Fs.flatten) → ∀ b ∈ G, ok2 b
theorem expC_rel : ∀ {cs : List C} {b1 b2 : Nat} {vs : List Value}, flatL cs = true → (∀ j, j < cs.length → β2 (b2 + 10000 * j) = β1 (b1 + 10000 * j)) →
 (∀ m ds F, C.sl m ds F ∈ cs → Up w ok1 ok2 F) → RelL P w β1 ok1 (expC b1 cs) vs → RelL P w β2 ok2 (expC b2 cs) vs
 | [], _, _, [], _, _, _, _ => trivial
 | [], _, _, _ :: _, _, _, _, h => h.elim
 | _ :: _, _, _, [], _, _, _, h => h.elim
 | x :: r, b1, b2, v :: vs, hf, hβ, hu, h => by
  simp only [flatL, Bool.and_eq_true] at hf
  refine ⟨?_, expC_rel hf.2 (fun j hj => ?_) (fun m ds F hm => hu m ds F (by simp [hm])) h.2⟩
  ·have h1 := h.1
   cases x with
   | v x => exact h1
   | sl m ds F => obtain ⟨G, h2, h3, h4⟩ := h1; exact ⟨G, h2, hu m ds F (by simp) G h3 (fun Fs e => (h4 Fs e).1), h4⟩
   | ow ty m ds F =>
    have h1 : OwnS P w (β1 b1) m v := h1
    have e : β2 b2 = β1 b1 := by simpa using hβ 0 (by simp)
    show OwnS P w (β2 b2) m v
    rw [e]; exact h1
   | dead => trivial
   | self => exact h1
   | p => simp [flatC] at hf
   | s => simp [flatC] at hf
   | q => simp [flatC] at hf
   | fn => simp [flatC] at hf
  ·have := hβ (j + 1) (by simp; omega)
   rwa [Nat.mul_add, Nat.mul_one, Nat.add_comm (10000 * j), ← Nat.add_assoc, ← Nat.add_assoc] at this
theorem expC_self : ∀ {cs : List C} {b k : Nat}, (expC b cs)[k]? = some C.self → cs[k]? = some C.self
 | [], b, k, h => by simp [expC] at h
 | x :: r, b, 0, h => by
  simp only [expC, List.getElem?_cons_zero, Option.some.injEq] at h ⊢
  split at h
  ·cases h
  ·exact h
 | x :: r, b, k + 1, h => by simp only [expC, List.getElem?_cons_succ] at h ⊢; exact expC_self h
theorem expC_self' : ∀ {cs : List C} {b k : Nat}, cs[k]? = some C.self → (expC b cs)[k]? = some C.self
 | [], b, k, h => by simp at h
 | x :: r, b, 0, h => by simp only [List.getElem?_cons_zero, Option.some.injEq] at h; subst h; simp [expC]
 | x :: r, b, k + 1, h => by simp only [expC, List.getElem?_cons_succ] at h ⊢; exact expC_self' h
theorem SelfOk.expC {ty : TypeId} {b b1 b2 : Nat} {cs : List C} {vs : List Value} (h : SelfOk b ty (expC b1 cs) vs) : SelfOk b ty (expC b2 cs) vs := h.map fun k hk => expC_self' (expC_self hk)
theorem expT_rel : ∀ {xs : List (List C × Bool)} {b1 b2 : Nat} {vs : List Value}, flatL (xs.flatMap (·.1)) = true → (∀ j, j < (xs.flatMap (·.1)).length → β2 (b2 + 10000 * j) = β1 (b1 + 10000 * j)) →
 (∀ m ds F, C.sl m ds F ∈ xs.flatMap (·.1) → Up w ok1 ok2 F) → RelT P w β1 ok1 (expT b1 xs) vs → RelT P w β2 ok2 (expT b2 xs) vs
 | [], _, _, [], _, _, _, _ => trivial
 | [], _, _, _ :: _, _, _, _, h => h.elim
 | _ :: _, _, _, [], _, _, _, h => h.elim
 | (cs, t) :: r, b1, b2, v :: vs, hf, hβ, hu, h => by
  have hfa : ∀ {a b : List C}, flatL (a ++ b) = true → flatL a = true ∧ flatL b = true := by
   intro a b
   induction a with
   | nil => intro h; exact ⟨rfl, h⟩
   | cons x r ih => intro h; simp only [List.cons_append, flatL, Bool.and_eq_true] at h ⊢; exact ⟨⟨h.1, (ih h.2).1⟩, (ih h.2).2⟩
  simp only [List.flatMap_cons] at hf hβ hu
  obtain ⟨f1, f2⟩ := hfa hf
  have l1 : ∀ {vs}, RelL P w β1 ok1 (expC b1 cs) vs → RelL P w β2 ok2 (expC b2 cs) vs := expC_rel f1 (fun j hj => hβ j (by simp; omega)) (fun m ds F hm => hu m ds F (by simp [hm]))
  refine ⟨?_, expT_rel f2 (fun j hj => ?_) (fun m ds F hm => hu m ds F (List.mem_append_right _ hm)) h.2⟩
  ·have h1 := h.1
   simp only [RelT1] at h1 ⊢
   split
   ·rename_i ht; rw [if_pos ht] at h1; exact l1 h1
   ·rename_i ht; rw [if_neg ht] at h1; obtain ⟨vs, h2, h3⟩ := h1; exact ⟨vs, h2, l1 h3⟩
  ·have := hβ (cs.length + j) (by simp at hj ⊢; omega)
   rw [Nat.mul_add] at this
   rw [Nat.add_assoc, Nat.add_assoc]; exact this
theorem expS_rel {r : S} {b1 b2 : Nat} {v : Value} (hf : flatL (cellsS r) = true) (hβ : ∀ j, j < (cellsS r).length → β2 (b2 + 10000 * j) = β1 (b1 + 10000 * j))
 (hu : ∀ m ds F, C.sl m ds F ∈ cellsS r → Up w ok1 ok2 F) (h : RelS P w β1 ok1 (expS b1 r) v) : RelS P w β2 ok2 (expS b2 r) v := by
 cases r with
 | c x =>
  have h1 : RelL P w β1 ok1 (expC b1 [x]) [v] := ⟨h, trivial⟩
  exact (expC_rel hf hβ hu h1).1
 | ag cs => obtain ⟨vs, h1, h2⟩ := h; exact ⟨vs, h1, expC_rel hf hβ hu h2⟩
 | tu xs => obtain ⟨vs, h1, h2⟩ := h; exact ⟨vs, h1, expT_rel hf hβ hu h2⟩
theorem arr_rel {i1 i2 : Nat} {ty : TypeId} {m : Nat} {ds : List D} {F : Fp} (hβ : β2 i2 = β1 i1) (hu : Up w ok1 ok2 F) (h : RelO P w β1 ok1 i1 (.arr ty m ds F)) : RelO P w β2 ok2 i2 (.arr ty m ds F) := by
 rcases h with ⟨h1, h2⟩ | ⟨b, vs, hd, junk, G, lh, h1, h2, hlh, h3, h4, h5, h6, h7⟩
 ·exact .inl ⟨hβ.trans h1, h2⟩
 ·exact .inr ⟨b, vs, hd, junk, G, lh, hβ.trans h1, h2, hlh, h3, h4, hu G h5 (fun Fs e => (h6.1 Fs e).1), h6, h7⟩
end
theorem fpL_mem : ∀ {cs : List C} {x : C}, x ∈ cs → ∀ G ∈ fpC x, G ∈ fpL cs
 | y :: r, x, h, G, hG => by
  simp only [fpL, List.mem_append]
  rcases List.mem_cons.1 h with rfl | h
  ·exact .inl hG
  ·exact .inr (fpL_mem h G hG)
theorem fpB_mem : ∀ {os : List (List C)} {k : Nat} {cs : List C} {x : C}, os[k]? = some cs → x ∈ cs → ∀ G ∈ fpC x, G ∈ fpB os
 | [], _, _, _, h, _, _, _ => by simp at h
 | c :: r, 0, cs, x, h, hx, G, hG => by simp at h; subst h; simp only [fpB, List.mem_append]; exact .inl (fpL_mem hx G hG)
 | c :: r, k + 1, cs, x, h, hx, G, hG => by simp only [fpB, List.mem_append]; exact .inr (fpB_mem (by simpa using h) hx G hG)
theorem toldL_mem : ∀ {cs : List C} {x : C}, toldL cs = true → x ∈ cs → toldC x = true
 | y :: r, x, h, hx => by
  simp only [toldL, Bool.and_eq_true] at h
  rcases List.mem_cons.1 hx with rfl | hx
  ·exact h.1
  ·exact toldL_mem h.2 hx
theorem toldB_mem : ∀ {os : List (List C)} {k : Nat} {cs : List C}, toldB os = true → os[k]? = some cs → toldL cs = true
 | [], _, _, _, h => by simp at h
 | c :: r, 0, cs, h, hk => by simp at hk; subst hk; simp only [toldB, Bool.and_eq_true] at h; exact h.1
 | c :: r, k + 1, cs, h, hk => by simp only [toldB, Bool.and_eq_true] at h; exact toldB_mem h.2 (by simpa using hk)
theorem flatB_mem : ∀ {os : List (List C)} {k : Nat} {cs : List C}, flatB os = true → os[k]? = some cs → flatL cs = true ∧ cs.length ≤ 900
 | [], _, _, _, h => by simp at h
 | c :: r, 0, cs, h, hk => by simp at hk; subst hk; simp only [flatB, Bool.and_eq_true, decide_eq_true_eq] at h; exact h.1
 | c :: r, k + 1, cs, h, hk => by simp only [flatB, Bool.and_eq_true] at h; exact flatB_mem h.2 (by simpa using hk)
theorem look_strs {ρ : List (Nat × Nat)} {d : Nat} : ∀ {os : List (List C)} {k i : Nat} {o : O}, look (strs ρ d k os) i = some o →
 (∃ t cs, os[t]? = some cs ∧ lk ρ (9000 + (k + t)) = some i ∧ o = .str (expC (nk d (k + t)) cs)) ∨ (∃ t cs j ty m ds F, os[t]? = some cs ∧ cs[j]? = some (.ow ty m ds F) ∧ i = nk d (k + t) + 10000 * j ∧ o = .arr ty m ds F)
 | [], k, i, o, h => by simp [strs, look] at h
 | cs :: r, k, i, o, h => by
  simp only [strs, look_append] at h
  have h0 : (lk ρ (9000 + k) = some i ∧ o = .str (expC (nk d k) cs)) ∨ (look (expO (nk d k) cs) i).or (look (strs ρ d (k + 1) r) i) = some o := by
   split at h
   ·rename_i i' hi'
    simp only [look] at h
    by_cases e : i' = i
    ·subst e; simp at h; exact .inl ⟨hi', h.symm⟩
    ·simp [e] at h; exact .inr (by simpa using h)
   ·exact .inr (by simpa [look] using h)
  rcases h0 with ⟨h1, h2⟩ | h
  ·exact .inl ⟨0, cs, rfl, h1, h2⟩
  ·cases h1 : look (expO (nk d k) cs) i with
   | some o' =>
    simp [h1] at h; subst h
    obtain ⟨j, ty, m, ds, F, h2, h3, h4⟩ := look_expO h1
    exact .inr ⟨0, cs, j, ty, m, ds, F, rfl, h3, h2, h4⟩
   | none =>
    simp [h1] at h
    rcases look_strs h with ⟨t, cs', h2, h3, h4⟩ | ⟨t, cs', j, ty, m, ds, F, h2, h3, h4, h5⟩
    ·exact .inl ⟨t + 1, cs', by simpa using h2, by rw [← h3]; congr 1; omega, by rw [h4]; congr 3; omega⟩
    ·exact .inr ⟨t + 1, cs', j, ty, m, ds, F, by simpa using h2, h3, by rw [h4]; congr 2; omega, h5⟩
theorem look_strs_lent {ρ : List (Nat × Nat)} {d : Nat} : ∀ {os : List (List C)} {k t i : Nat}, t < os.length → lk ρ (9000 + (k + t)) = some i → look (strs ρ d k os) i ≠ none
 | [], _, _, _, h, _ => by simp at h
 | cs :: r, k, 0, i, h, hl => by
  have hl : lk ρ (9000 + k) = some i := hl
  simp [strs, hl, look]
 | cs :: r, k, t + 1, i, h, hl => by
  have ih := look_strs_lent (d := d) (os := r) (k := k + 1) (t := t) (i := i) (by simpa using h) (by rw [← hl]; congr 1; omega)
  simp only [strs, look_append]
  intro e
  simp only [Option.or_eq_none_iff] at e
  exact ih e.2.2
def dec (j : Nat) : Nat := if j / 10000 < 1000 then 9700 + 10000 * (j / 10000 - 1) else 9200 + (j / 10000 / 1000 - 1) + 10000 * (j / 10000 % 1000)
theorem dec_res {d j : Nat} (hd : d < 10000) (hj : j ≤ 900) : dec (d + 10000 + 10000 * j) = 9700 + 10000 * j := by
 have : (d + 10000 + 10000 * j) / 10000 = j + 1 := by omega
 simp only [dec, this]; rw [if_pos (by omega)]; omega
theorem dec_nest {d k j : Nat} (hd : d < 10000) (hj : j ≤ 900) : dec (nk d k + 10000 * j) = 9200 + k + 10000 * j := by
 have e : (nk d k + 10000 * j) / 10000 = 1000 * (k + 1) + j := by simp only [nk]; omega
 simp only [dec, e]; rw [if_neg (by omega)]
 have e1 : (1000 * (k + 1) + j) / 1000 = k + 1 := by omega
 have e2 : (1000 * (k + 1) + j) % 1000 = j := by omega
 rw [e1, e2]; omega
theorem fam_res {d j : Nat} (hd : d < 10000) : fam (d + 10000 + 10000 * j) = d := by simp only [fam]; omega
theorem fam_nest {d k j : Nat} (hd : d < 10000) : fam (nk d k + 10000 * j) = d := by simp only [fam, nk]; omega
def bm (ρ : List (Nat × Nat)) (d i : Nat) : Nat := if fam i = 9700 then d + 10000 + 10000 * (i / 10000) else if fam i < 9200 then (lk ρ i).getD 0 else nk d (fam i - 9200) + 10000 * (i / 10000)
theorem used_mem {L : Ob} : ∀ {ρ : List (Nat × Nat)} {j i : Nat} {ty m ds F}, lk ρ j = some i → look L i = some (.arr ty m ds F) → i ∈ used L ρ
 | [], _, _, _, _, _, _, h, _ => by simp [lk] at h
 | (a, b) :: r, j, i, ty, m, ds, F, h, hl => by
  simp only [lk] at h
  simp only [used, List.mem_append]
  split at h
  ·injection h with h; subst h; simp [hl]
  ·exact .inr (used_mem h hl)
theorem famOk_mem {L : Ob} {d : Nat} : ∀ {ρ : List (Nat × Nat)} {j i : Nat} {cs}, famOk L d ρ = true → lk ρ j = some i → look L i = some (.str cs) → fam i ≠ d
 | [], _, _, _, _, h, _ => by simp [lk] at h
 | (a, b) :: r, j, i, cs, hf, h, hl => by
  simp only [lk] at h
  simp only [famOk, Bool.and_eq_true] at hf
  split at h
  ·injection h with h; subst h
   have := hf.1
   simp [hl] at this; exact this
  ·exact famOk_mem hf.2 h hl
end Go.Dv
