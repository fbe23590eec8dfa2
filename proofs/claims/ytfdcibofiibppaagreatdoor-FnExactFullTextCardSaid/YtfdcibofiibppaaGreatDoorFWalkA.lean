/-
  A symbolic walk over functions: its definitions and that it is sound, first half.
  Conditions: none.
-/
import Derived.WalkKit
import Derived.WalkLawsBesides
import Derived.WalkSpells
import Derived.Orders
import GoSem.ClaimData
import Derived.RowKit3
set_option linter.unusedVariables false
set_option linter.unusedSimpArgs false
namespace Go.Vc
open Go Go.RowKit

/-! ## The symbolic state: values, boxes, the world that is seen -/

/-- One cell: a value that is known; a pointer into a box of the call's own; a slice over a whole box of its own; nothing known. -/
inductive CV where
  | v (x : Value)
  | bp (i off : Nat)
  | bs (i len : Nat)
  | dead

/-- What a slot holds: one cell, or a struct written out in cells. -/
inductive SV where
  | c (x : CV)
  | ag (cs : List CV)

/-- A variable of the call's own: a struct or scalar in cells; an array behind a slice, values alone. -/
inductive Box where
  | str (ty : TypeId) (cs : List CV)
  | arr (ty : TypeId) (vs : List Value) (cap : Nat)

abbrev Regs := Nat → SV
abbrev Lst := List (Nat × Box)

def Box.ty : Box → TypeId
  | .str t _ => t
  | .arr t _ _ => t
def Box.cells : Box → List CV
  | .str _ cs => cs
  | .arr _ vs _ => vs.map .v

def look : Lst → Nat → Option Box
  | [], _ => none
  | (j, b) :: r, i => if j = i then some b else look r i
def rem : Lst → Nat → Lst
  | [], _ => []
  | (j, b) :: r, i => if j = i then rem r i else (j, b) :: rem r i
def setL (L : Lst) (i : Nat) (b : Box) : Lst := (i, b) :: rem L i

def killC (d : Nat) : CV → CV
  | .bp j o => if j = d then .dead else .bp j o
  | .bs j n => if j = d then .dead else .bs j n
  | x => x
def killS (d : Nat) : SV → SV
  | .c x => .c (killC d x)
  | .ag cs => .ag (cs.map (killC d))
def killB (d : Nat) : Box → Box
  | .str t cs => .str t (cs.map (killC d))
  | .arr t vs c => .arr t vs c
def killL (d : Nat) : Lst → Lst
  | [] => []
  | (j, b) :: r => (j, killB d b) :: killL d r
def killR (d : Nat) (f : Regs) : Regs := fun s => killS d (f s)

def upd (f : Regs) (d : Nat) (v : SV) : Regs := fun s => if s = d then v else f s
/-- The slot that is written, if it is one of the frame's n. -/
def put (n : Nat) (f : Regs) (d : Option Nat) (v : SV) : Regs :=
  match d with
  | some d => if d < n then upd f d v else f
  | none => f

def ev (f : Regs) : Operand → SV
  | .tmp t => f t
  | .const v => .c (.v v)
  | .global g => .c (.v (.pointer (some ⟨g, 0, none⟩)))
  | .func g => .c (.v (.func (.func g) #[] #[]))

/-! ## What the symbols mean -/
def Conc (β κ : Nat → Nat) : CV → Value → Prop
  | .v x, y => y = x
  | .bp i off, y => y = .pointer (some ⟨β i, off, none⟩)
  | .bs i n, y => y = .slice (some ⟨β i, 0, none⟩) n (κ i)
  | .dead, _ => True
def ConcL (β κ : Nat → Nat) : List CV → List Value → Prop
  | [], [] => True
  | x :: xs, y :: ys => Conc β κ x y ∧ ConcL β κ xs ys
  | _, _ => False
def ConcS (β κ : Nat → Nat) : SV → Value → Prop
  | .c x, y => Conc β κ x y
  | .ag cs, y => ∃ vs : List Value, y = .agg vs.toArray ∧ ConcL β κ cs vs

/-- The mark of a block that is hidden. -/
def hid : Obj := .coro none
def vis (m : World) (b : Nat) : Prop := ∃ o, m.heap[b]? = some o ∧ o ≠ hid
/-- The world m is w with some blocks hidden. -/
structure Under (m w : World) : Prop where
  blocks : ∀ b, vis m b → w.heap[b]? = m.heap[b]?
  os : w.os = m.os
  tape : w.tape = m.tape
  output : w.output = m.output
/-- All that was seen is as it was. -/
structure Grow (m m' : World) : Prop where
  blocks : ∀ b, vis m b → m'.heap[b]? = m.heap[b]?
  os : m'.os = m.os
  tape : m'.tape = m.tape
  output : m'.output = m.output

theorem Grow.refl (m : World) : Grow m m := ⟨fun _ _ => rfl, rfl, rfl, rfl⟩
theorem Grow.vis {m m' : World} (h : Grow m m') {b : Nat} (hb : vis m b) : vis m' b := by
  obtain ⟨o, ho, hn⟩ := hb
  exact ⟨o, (h.blocks b ⟨o, ho, hn⟩).trans ho, hn⟩
theorem Grow.trans {a b c : World} (h : Grow a b) (k : Grow b c) : Grow a c :=
  ⟨fun i hi => (k.blocks i (h.vis hi)).trans (h.blocks i hi), k.os.trans h.os, k.tape.trans h.tape, k.output.trans h.output⟩
theorem vis_of_cell {m : World} {a : Addr} {v : Value} (h : m.cell? a = some v) : vis m a.block := by
  unfold World.cell? at h
  split at h
  · rename_i c t fr ho
    exact ⟨_, ho, by simp [hid]⟩
  · cases h
theorem Grow.cell {m m' : World} (h : Grow m m') {a : Addr} {v : Value} (hc : m.cell? a = some v) : m'.cell? a = some v := by
  have := h.blocks a.block (vis_of_cell hc)
  unfold World.cell? at *
  rw [this]; exact hc
theorem Under.cell {m w : World} (h : Under m w) {a : Addr} {v : Value} (hc : m.cell? a = some v) : w.cell? a = some v := by
  have := h.blocks a.block (vis_of_cell hc)
  unfold World.cell? at *
  rw [this]; exact hc

/-- Nothing is lost, nothing is frozen or thawed. -/
def Wd (w w' : World) : Prop := w.heap.size ≤ w'.heap.size ∧ ∀ a, w'.frozen? a = w.frozen? a
theorem Wd.refl (w : World) : Wd w w := ⟨Nat.le_refl _, fun _ => rfl⟩
theorem Wd.trans {a b c : World} (h : Wd a b) (k : Wd b c) : Wd a c := ⟨Nat.le_trans h.1 k.1, fun x => (k.2 x).trans (h.2 x)⟩
theorem Wd.alloc (w : World) (cs : Array Value) (t : TypeId) : Wd w (w.alloc (.cells cs t)) := ⟨by simp, fun a => frozen?_alloc_cells w cs t a⟩
theorem Wd.setRow (w : World) (g : Nat) (cs : Array Value) : Wd w (w.setRow g cs) := ⟨by simp, fun a => by
  simp only [World.frozen?, World.setRow, Array.getElem?_modify]
  by_cases hg : g = a.block
  · simp only [hg, if_true]
    cases h : w.heap[a.block]? with
    | none => rfl
    | some o => cases o <;> rfl
  · simp only [hg, if_false]⟩
theorem Wd.setCell (w : World) (ad : Addr) (v : Value) : Wd w (w.setCell ad v) := ⟨by rw [World.size_setCell]; exact Nat.le_refl _, fun a => World.frozen?_setCell _ _ _ _⟩

def callable (P : Program) (f : FuncId) : Bool :=
  match P.funcs[f]? with
  | some fn => fn.body.isSome && !(fn.name == "runtime.NumGoroutine")
  | none => false

/-- What a call does, told of the world that is seen: it comes back with v; what was hidden is as it was and stays hidden. -/
def FCalls (P : Program) (f : FuncId) (args : Array Value) (m : World) (R : Value → World → Prop) : Prop :=
  callable P f = true ∧ ∀ w, Under m w → Calls P f args w fun e w' => ∃ v m', e = .returned v ∧ Under m' w' ∧ Wd w w' ∧
    (∀ b, b < w.heap.size → ¬ vis m b → w'.heap[b]? = w.heap[b]? ∧ ¬ vis m' b) ∧ R v m'

theorem FCalls.mono {P : Program} {f : FuncId} {args : Array Value} {m : World} {R R' : Value → World → Prop} (h : FCalls P f args m R) (hr : ∀ v m', R v m' → R' v m') : FCalls P f args m R' :=
  ⟨h.1, fun w hw => (h.2 w hw).mono fun _ _ ⟨v, m', he, hu, hs, hf, hR⟩ => ⟨v, m', he, hu, hs, hf, hr _ _ hR⟩⟩

/-! ## The tables -/
inductive TS where
  | one
  | agg (k : Nat)
  | bad
  deriving DecidableEq

/-- How many cells a variable of the type has, and whether it is a struct or an array. -/
def tyS (P : Program) (t : TypeId) : TS :=
  match P.underlying t with
  | some (.struct _) | some (.array _ _) => match P.info? t with | some i => .agg i.size | none => .bad
  | some _ => match P.info? t with | some i => if i.size = 1 then .one else .bad | none => .bad
  | none => .bad
/-- A slice type's element type, its cells, its bytes. -/
def elemS (P : Program) (t : TypeId) : Option (TypeId × Nat × Nat) :=
  match P.underlying t with
  | some (.slice e) => (P.info? e).map fun i => (e, i.size, i.bytes)
  | _ => none
/-- A field's offset, where it has cells. -/
def fieldOff (P : Program) (t : TypeId) (k : Nat) : Option Nat :=
  match P.underlying t with
  | some (.struct fs) => (fs[k]?).bind fun f => match P.info? f.type with | some i => if i.size = 0 then none else some f.offset | none => none
  | _ => none
def zeroC (P : Program) (t : TypeId) : Option (List Value) := (P.info? t).bind fun i => i.zero.map fun z => z.cells.toList
/-- The places of a struct type's fields: offset and size. -/
def placesS (P : Program) (t : TypeId) : Option (List (Nat × Nat)) :=
  match P.underlying t with
  | some (.struct fs) => fs.toList.mapM fun f => (P.info? f.type).map fun i => (f.offset, i.size)
  | _ => none
/-- What 'len' is asked of: 1, a slice; 2, a string. -/
def lenK (P : Program) (t : TypeId) : Nat :=
  match P.underlying t with
  | some (.slice _) => 1
  | some .string => 2
  | _ => 0
end Go.Vc

namespace Go.Vc
open Go Go.RowKit

def valsOf? : List CV → Option (List Value)
  | [] => some []
  | .v x :: r => match valsOf? r with | some vs => some (x :: vs) | none => none
  | _ :: _ => none
def cellsOf? : SV → Option (List CV)
  | .c (.v (.agg a)) => some (a.toList.map .v)
  | .c (.v (.tuple _)) => none
  | .c .dead => none
  | .c x => some [x]
  | .ag cs => some cs
def mkAg (cs : List CV) : SV := match valsOf? cs with | some vs => .c (.v (.agg vs.toArray)) | none => .ag cs
def toV? : SV → Option Value
  | .c (.v x) => some x
  | .ag cs => match valsOf? cs with | some vs => some (.agg vs.toArray) | none => none
  | _ => none
def toVs : List SV → Option (List Value)
  | [] => some []
  | x :: r => match toV? x with
    | some v => (match toVs r with | some vs => some (v :: vs) | none => none)
    | none => none
def splice {α : Type} (cs : List α) (off : Nat) (ys : List α) : List α := cs.take off ++ (ys ++ cs.drop (off + ys.length))
/-- The parts of a literal, each at its place, over zero cells. -/
def fillC (places : List (Nat × Nat)) (cs : List CV) : List (Nat × SV) → Option (List CV)
  | [] => some cs
  | (i, s) :: r => match places[i]?, cellsOf? s with
    | some (off, size), some ys => if ys.length = size ∧ off + size ≤ cs.length then fillC places (splice cs off ys) r else none
    | _, _ => none

def refsC : CV → List Nat
  | .bp i _ => [i]
  | .bs i _ => [i]
  | _ => []
def refsS : SV → List Nat
  | .c x => refsC x
  | .ag cs => cs.flatMap refsC
def pubC (i b : Nat) (cap : Option Nat) : CV → CV
  | .bp j o => if j = i then .v (.pointer (some ⟨b, o, none⟩)) else .bp j o
  | .bs j n => if j = i then (match cap with | some c => .v (.slice (some ⟨b, 0, none⟩) n c) | none => .dead) else .bs j n
  | x => x
def pubS (i b : Nat) (cap : Option Nat) : SV → SV
  | .c x => .c (pubC i b cap x)
  | .ag cs => .ag (cs.map (pubC i b cap))
def pubB (i b : Nat) (cap : Option Nat) : Box → Box
  | .str t cs => .str t (cs.map (pubC i b cap))
  | .arr t vs c => .arr t vs c
def pubL (i b : Nat) (cap : Option Nat) : Lst → Lst
  | [] => []
  | (j, x) :: r => (j, pubB i b cap x) :: pubL i b cap r
def pubR (i b : Nat) (cap : Option Nat) (f : Regs) : Regs := fun s => pubS i b cap (f s)
def Box.cap : Box → Option Nat
  | .str _ _ => none
  | .arr _ _ c => some c

/-- A block that was hidden is shown: its number is new to whoever sees m; what it holds. -/
structure Pub (m m' : World) (b : Nat) (ty : TypeId) (vs : List Value) : Prop where
  new : ¬ vis m b
  there : ∃ junk : List Value, m'.heap[b]? = some (.cells (vs ++ junk).toArray ty (0, 0))
  grow : Grow m m'
  only : ∀ k, vis m' k → vis m k ∨ k = b

abbrev K0 := Regs → Lst → World → Prop
abbrev KE := Exit → Regs → Lst → World → Prop

def vcPub (i : Nat) (k : Nat → Option Nat → K0) : K0 := fun f L m =>
  match look L i with
  | some bx => (match valsOf? bx.cells with
    | some vs => ∀ b m', Pub m m' b bx.ty vs → k b bx.cap (pubR i b bx.cap f) (rem (pubL i b bx.cap L) i) m'
    | none => False)
  | none => False
/-- Values handed out of the call: whatever box they lead to is shown first. -/
def vcOut : Nat → List SV → (List Value → K0) → K0
  | 0, _, _ => fun _ _ _ => False
  | n + 1, xs, k => fun f L m =>
    match toVs xs with
    | some vs => k vs f L m
    | none => match xs.flatMap refsS with
      | [] => False
      | i :: _ => vcPub i (fun b c => vcOut n (xs.map (pubS i b c)) k) f L m

/-- A run that looks at no world: its value. -/
def Ex (P : Program) (s : Sem Value) (k : Value → Prop) : Prop := ∃ v, (∀ w, s.run P w = .ok v w) ∧ k v
abbrev LoadK1 (m : World) (ad : Addr) (n : Nat) (d : Option Nat) (K : K0) (f : Regs) (L : Lst) : Prop := ∃ v, m.cell? ad = some v ∧ K (put n f d (.c (.v v))) L m
abbrev LoadKA (m : World) (ad : Addr) (c : Nat) (n : Nat) (d : Option Nat) (K : K0) (f : Regs) (L : Lst) : Prop := ∃ vs : List Value, vs.length = c ∧ (∀ j v, vs[j]? = some v → m.cell? (ad.add j) = some v) ∧ K (put n f d (.c (.v (.agg vs.toArray)))) L m
/-- A load from memory that is seen. -/
def LoadM (P : Program) (t : TypeId) (ad : Addr) (n : Nat) (d : Option Nat) (K : K0) : K0 := fun f L m =>
  match tyS P t with
  | .one => LoadK1 m ad n d K f L
  | .agg c => LoadKA m ad c n d K f L
  | .bad => False
abbrev CallK (P : Program) (g : FuncId) (args : Array Value) (n : Nat) (d : Option Nat) (K : K0) (f : Regs) (L : Lst) (m : World) : Prop := FCalls P g args m fun v m' => K (put n f d (.c (.v v))) L m'
abbrev CallKS (P : Program) (g : FuncId) (args : Array Value) (n : Nat) (d : Option Nat) (K : K0) (f : Regs) (L : Lst) (m : World) : Prop := FCalls P g args m fun v m' => Grow m m' ∧ K (put n f d (.c (.v v))) L m'
def setCells (m : World) (ad : Addr) : List Value → World
  | [] => m
  | v :: r => setCells (m.setCell ad v) (ad.add 1) r

/-- A box is laid at the slot's number. -/
def create (n : Nat) (d : Option Nat) (bx : Box) (mk : Nat → CV) (K : K0) : K0 := fun f L m =>
  match d with
  | some d => if d < n then K (upd (killR d f) d (.c (mk d))) ((d, killB d bx) :: rem (killL d L) d) m else False
  | none => False

def oneCell : Value → Bool
  | .agg _ | .tuple _ => false
  | _ => true
/-- A single cell that may be stored. -/
def goodC : CV → Bool
  | .v y => oneCell y
  | .dead => false
  | _ => true
def sizeTS : TS → Nat
  | .one => 1
  | .agg k => k
  | .bad => 0

def vcLoad (P : Program) (n : Nat) (d : Option Nat) (t : TypeId) (x : SV) (K : K0) : K0 := fun f L m =>
  match x with
  | .c (.bp i off) => (match look L i with
    | some (.str _ cs) => (match tyS P t with
      | .one => (match cs[off]? with | some c => K (put n f d (.c c)) L m | none => False)
      | .agg k => if off + k ≤ cs.length then K (put n f d (mkAg ((cs.drop off).take k))) L m else False
      | .bad => False)
    | some (.arr _ vs _) => (match tyS P t with
      | .one => ∃ v, vs[off]? = some v ∧ K (put n f d (.c (.v v))) L m
      | .agg k => off + k ≤ vs.length ∧ K (put n f d (.c (.v (.agg ((vs.drop off).take k).toArray)))) L m
      | .bad => False)
    | none => False)
  | .c (.v (.pointer (some ad))) => LoadM P t ad n d K f L m
  | _ => False

def vcStore (P : Program) (n : Nat) (d : Option Nat) (t : TypeId) (x y : SV) (K : K0) : K0 := fun f L m =>
  match cellsOf? y with
  | some ys => (match x with
    | .c (.bp i off) => (match look L i with
      | some (.str ty cs) => if ys.all goodC = true ∧ ys.length = sizeTS (tyS P t) ∧ tyS P t ≠ .bad ∧ off + ys.length ≤ cs.length then K (put n f d (.c (.v undef))) (setL L i (.str ty (splice cs off ys))) m else False
      | some (.arr ty vs cap) => (match valsOf? ys with
        | some yv => yv.length = sizeTS (tyS P t) ∧ tyS P t ≠ .bad ∧ off + yv.length ≤ vs.length ∧ (∀ v ∈ yv, oneCell v = true) ∧ K (put n f d (.c (.v undef))) (setL L i (.arr ty (splice vs off yv) cap)) m
        | none => False)
      | none => False)
    | .c (.v (.pointer (some ad))) => (match valsOf? ys with
        | some yv => yv.length = sizeTS (tyS P t) ∧ tyS P t ≠ .bad ∧ ad.spot = none ∧ (∀ v ∈ yv, oneCell v = true) ∧ (∀ j, j < yv.length → (m.cell? (ad.add j)).isSome = true ∧ m.frozen? (ad.add j) = false) ∧ K (put n f d (.c (.v undef))) L (setCells m ad yv)
        | none => False)
    | _ => False)
  | none => False

/-- An operation on values alone. -/
def vcPure (P : Program) (n : Nat) (d : Option Nat) (s : Sem Value) (K : K0) : K0 := fun f L m => Ex P s fun v => K (put n f d (.c (.v v))) L m

def vcCall (P : Program) (n : Nat) (d : Option Nat) (fn : SV) (args : List SV) (K : K0) : K0 := fun f L m =>
  match fn with
  | .c (.v (.func (.func g) first captured)) =>
    vcOut 12 args (fun vs f L m => CallK P g (first ++ vs.toArray ++ captured) n d K f L m) f L m
  | _ => False

/-- The cells that an append adds. -/
def newsOf (sz : Nat) (t : SV) (L : Lst) (m : World) (k : Nat → List Value → Prop) : Prop :=
  match t with
  | .c (.bs j ln) => (match look L j with | some (.arr _ vs _) => ln * sz ≤ vs.length ∧ k ln (vs.take (ln * sz)) | _ => False)
  | .c (.v (.slice none 0 0)) => k 0 []
  | .c (.v (.slice (some ad) ln _)) => ∃ news : List Value, news.length = ln * sz ∧ (∀ i v, news[i]? = some v → m.cell? (ad.add i) = some v) ∧ k ln news
  | _ => False
/-- 'append(s, t...)' onto an array of the call's own, or onto nil: the result is a box of the slot's number; the box of s is used up. -/
def vcAppend (P : Program) (n : Nat) (d : Option Nat) (T : TypeId) (s t : SV) (K : K0) : K0 := fun f L m =>
  match elemS P T with
  | none => False
  | some (e, sz, bytes) => newsOf sz t L m fun q news => (∀ v ∈ news, oneCell v = true) ∧ 0 < sz ∧
    match s with
    | .c (.bs i ln) => (match look L i with
      | some (.arr ty vs _) => ty = e ∧ ln * sz ≤ vs.length ∧ ln + q ≤ maxLen ∧ (ln + q) * bytes ≤ 140737488355328 ∧
          ∀ cap', ln + q ≤ cap' → cap' ≤ maxLen → create n d (.arr ty (vs.take (ln * sz) ++ news) cap') (fun d => .bs d (ln + q)) K f (rem L i) m
      | _ => False)
    | .c (.v (.slice none 0 0)) => q ≤ maxLen ∧ q * bytes ≤ 140737488355328 ∧ (q = 0 → K (put n f d (.c (.v (.slice none 0 0)))) L m) ∧
        (0 < q → ∀ cap', q ≤ cap' → cap' ≤ maxLen → create n d (.arr e news cap') (fun d => .bs d q) K f L m)
    | _ => False

def zerosOf (P : Program) (e sz : Nat) (k : Nat) : Option (List Value) := match zeroC P e with | some z => if z.length = sz then some (List.replicate k z).flatten else none | none => none

def zeroOk (P : Program) (T : TypeId) : Bool := match elemS P T with | some (e, sz, _) => (zerosOf P e sz 1).isSome | none => true

/-- A Bool that may not be known yet: neither side is looked into. -/
abbrev Gd (b : Bool) (KA : K0) (fA : Regs) (KB : K0) (fB : Regs) (L : Lst) (m : World) : Prop := (b = true → KA fA L m) ∧ (b = false → KB fB L m)

/-- From []byte to string. -/
def convBS (P : Program) (s t : TypeId) : Bool :=
  match P.underlying s, P.underlying t with
  | some (.slice e), some .string => (match P.underlying e with | some (.int .u8) => true | _ => false)
  | _, _ => false

def vcOp (P : Program) (n : Nat) (o : Oper) (K : K0) : K0 := fun f L m =>
  match o.op with
  | .move x | .assign x => K (put n f o.dst (ev f x)) L m
  | .pick c a b => (match ev f c with
    | .c (.v (.bool t)) => Gd t K (put n f o.dst (ev f a)) K (put n f o.dst (ev f b)) L m
    | _ => False)
  | .alloc t => (match zeroC P t with | some z => create n o.dst (.str t (z.map .v)) (fun d => .bp d 0) K f L m | none => False)
  | .box t x => (match cellsOf? (ev f x) with | some cs => create n o.dst (.str t cs) (fun d => .bp d 0) K f L m | none => False)
  | .build t parts => (match zeroC P t, placesS P t with
    | some z, some pl => (match fillC pl (z.map .v) (parts.toList.map fun p => (p.1, ev f p.2)) with
      | some cs => K (put n f o.dst (mkAg cs)) L m
      | none => False)
    | _, _ => False)
  | .buildSlice T len parts => (match elemS P T with
    | some (e, sz, _) => (match zerosOf P e sz len with
      | some zs => (match fillC ((List.range len).map fun i => (i * sz, sz)) (zs.map .v) (parts.toList.map fun p => (p.1, ev f p.2)) with
        | some cs => (match valsOf? cs with
          | some vs => 0 < sz ∧ len * sz ≤ 16777216 ∧ create n o.dst (.arr e vs len) (fun d => .bs d len) K f L m
          | none => False)
        | none => False)
      | none => False)
    | none => False)
  | .load t x => vcLoad P n o.dst t (ev f x) K f L m
  | .store t x y => vcStore P n o.dst t (ev f x) (ev f y) K f L m
  | .fieldAddr T x k => (match ev f x with
    | .c (.bp i off) => (match fieldOff P T k with | some q => K (put n f o.dst (.c (.bp i (off + q)))) L m | none => False)
    | .c (.v a) => vcPure P n o.dst (Instr.fieldAt T a k) K f L m
    | _ => False)
  | .indexAddr T x i => (match ev f i, elemS P T with
    | .c (.v (.int _ k)), some (_, sz, _) => (match ev f x with
      | .c (.bs j ln) => 0 ≤ k ∧ k < ln ∧ K (put n f o.dst (.c (.bp j (k.toNat * sz)))) L m
      | .c (.v (.slice a ln _)) => 0 ≤ k ∧ k < ln ∧ ∃ ad, a = some ad ∧ K (put n f o.dst (.c (.v (.pointer (some (ad.add (k.toNat * sz))))))) L m
      | _ => False)
    | _, _ => False)
  | .makeSlice T l c => (match ev f l, ev f c, elemS P T with
    | .c (.v (.int .i64 a)), .c (.v (.int .i64 b)), some (e, sz, bytes) => 0 ≤ a ∧ a = b ∧ 0 < sz ∧ b * bytes ≤ 140737488355328 ∧ b ≤ 9223372036854775807 ∧
      (match zerosOf P e sz a.toNat with
      | some zs => create n o.dst (.arr e zs b.toNat) (fun d => .bs d a.toNat) K f L m
      | none => False)
    | _, _, _ => False)
  | .call c => (match c.callee with
    | .value g => vcCall P n o.dst (ev f g) (c.args.toList.map (ev f)) K f L m
    | .builtin .len => (match c.args.toList.map (ev f), c.argTypes.toList with
      | [x], [T] => (match x with
        | .c (.bs _ ln) => lenK P T = 1 ∧ K (put n f o.dst (.c (.v (.int .i64 ln)))) L m
        | .c (.v (.slice _ ln _)) => lenK P T = 1 ∧ K (put n f o.dst (.c (.v (.int .i64 ln)))) L m
        | .c (.v (.string s)) => lenK P T = 2 ∧ K (put n f o.dst (.c (.v (.int .i64 s.size)))) L m
        | _ => False)
      | _, _ => False)
    | .builtin .append => (match c.args.toList.map (ev f), c.argTypes.toList with
      | [s, t], [T, U] => T = U ∧ zeroOk P T = true ∧ vcAppend P n o.dst T s t K f L m
      | _, _ => False)
    | _ => False)
  | .binOp op t x y _ => (match ev f x, ev f y with
    | .c (.v a), .c (.v b) => vcPure P n o.dst (do eqGuard op t x y a b; binOp op t a b) K f L m
    | _, _ => False)
  | .unOp op _ x => (match ev f x with
    | .c (.v a) => vcPure P n o.dst (Op.unary op a) K f L m
    | _ => False)
  | .nilCheck x => (match ev f x with
    | .c (.v (.pointer (some ad))) => K (put n f o.dst (.c (.v (.pointer (some ad))))) L m
    | .c (.bp i off) => K (put n f o.dst (.c (.bp i off))) L m
    | .c (.v (.func (.func g) first captured)) => K (put n f o.dst (.c (.v (.func (.func g) first captured)))) L m
    | _ => False)
  | .convert s t x => (match ev f x with
    | .c (.v (.slice (some ad) ln _)) => convBS P s t = true ∧ ∃ bs : List UInt8, bs.length = ln ∧ (∀ (j : Nat) (b : UInt8), bs[j]? = some b → m.cell? (ad.add j) = some (.int .u8 (b.toNat : Int))) ∧ K (put n f o.dst (.c (.v (.string ⟨bs.toArray⟩)))) L m
    | .c (.bs i ln) => convBS P s t = true ∧ (match look L i with
      | some (.arr _ vs _) => ∃ bs : List UInt8, bs.length = ln ∧ (∀ (j : Nat) (b : UInt8), bs[j]? = some b → vs[j]? = some (Value.int .u8 (b.toNat : Int))) ∧ K (put n f o.dst (.c (.v (.string ⟨bs.toArray⟩)))) L m
      | _ => False)
    | .c (.v a) => vcPure P n o.dst (convert s t a) K f L m
    | _ => False)
  | .extract x i => (match ev f x with
    | .c (.v a) => vcPure P n o.dst (Instr.extract a i) K f L m
    | _ => False)
  | .index T x i => (match ev f x, ev f i with
    | .c (.v a), .c (.v b) => vcPure P n o.dst (Instr.index T a b) K f L m
    | _, _ => False)
  | _ => False

/-- The slot of a guard. -/
def guardSlot (ops : Array Oper) (j : Nat) : Option Nat := (ops[j]?).bind (·.dst)

def vcl (P : Program) (n : Nat) (ops : Array Oper) (K : K0) : List Oper → K0
  | [] => K
  | o :: r => fun f L m =>
    match o.guard with
    | none => vcOp P n o (vcl P n ops K r) f L m
    | some (j, want) => match guardSlot ops j with
      | none => False
      | some g => match f g with
        | .c (.v (.bool b)) => (b = want → vcOp P n o (vcl P n ops K r) (upd f g (.c (.v (.bool want)))) L m) ∧
            (b = (!want) → vcl P n ops K r (put n (upd f g (.c (.v (.bool !want)))) o.dst (.c (.v undef))) L m)
        | .c (.v (.tuple _)) => vcl P n ops K r (put n f o.dst (.c (.v undef))) L m
        | _ => False

/-! ## Code -/
def inN : List Nat → Nat → Bool
  | [], _ => false
  | w :: ws, i => if w = i then true else inN ws i
def mixC (ws : List Nat) : CV → CV
  | .bp j o => if inN ws j = true then .dead else .bp j o
  | .bs j n => if inN ws j = true then .dead else .bs j n
  | x => x
def mixS (ws : List Nat) : SV → SV
  | .c x => .c (mixC ws x)
  | .ag cs => .ag (cs.map (mixC ws))
/-- The slots ws as g has them, the others as f has them. -/
def mix (f : Regs) (ws : List Nat) (g : Regs) : Regs := fun i => if inN ws i = true then g i else mixS ws (f i)
def Sub (A B : Lst) : Prop := ∀ p ∈ A, look B p.1 = some p.2

def dstsOps : List Oper → List Nat
  | [] => []
  | o :: r => match o.dst with | some d => d :: dstsOps r | none => dstsOps r
def dsts : Code → List Nat
  | .region _ ops _ => dstsOps ops.toList
  | .seq a b => dsts a ++ dsts b
  | .cond _ a b => dsts a ++ dsts b
  | .block _ c => dsts c
  | .loop c => dsts c
  | .scope c => dsts c
  | _ => []

/-- Box i is told by the number j from here on. -/
def renC (i j : Nat) : CV → CV
  | .bp k o => if k = i then .bp j o else if k = j then .dead else .bp k o
  | .bs k n => if k = i then .bs j n else if k = j then .dead else .bs k n
  | x => x
def renS (i j : Nat) : SV → SV
  | .c x => .c (renC i j x)
  | .ag cs => .ag (cs.map (renC i j))
def renB (i j : Nat) : Box → Box
  | .str t cs => .str t (cs.map (renC i j))
  | .arr t vs c => .arr t vs c
def renR (i j : Nat) (f : Regs) : Regs := fun s => renS i j (f s)
def renL (i j : Nat) : Lst → Lst
  | [] => []
  | (k, b) :: r => if k = i then (j, renB i j b) :: renL i j r else if k = j then renL i j r else (k, renB i j b) :: renL i j r
def rens (ws : List Nat) (ρ : List (Nat × Nat)) (f : Regs) (L : Lst) (k : Regs → Lst → Prop) : Prop :=
  match ρ with
  | [] => k f L
  | (i, j) :: r => i ≠ j ∧ inN ws j = true ∧ rens ws r (renR i j f) (renL i j L) k

def vcLoop (ws : List Nat) (body : KE → K0) (K : KE) : K0 := fun f₀ L₀ m =>
  ∃ ρ : List (Nat × Nat), rens ws ρ f₀ L₀ fun f L =>
  ∃ (I : Regs → Lst → World → Prop) (μ : Regs → Lst → World → Nat), (∃ L0, Sub L0 L ∧ I (mix f ws f) L0 m) ∧
    ∀ g L1 m1, I (mix f ws g) L1 m1 → body (fun e f' L' m' => match e with
      | .normal => ∃ L2, Sub L2 L' ∧ I (mix f ws f') L2 m' ∧ μ (mix f ws f') L2 m' < μ (mix f ws g) L1 m1
      | e => K e f' L' m') (mix f ws g) L1 m1

/-! ### A region whose order is drawn: the plan of the walk -/
inductive Plan where
  | done
  | take (i : Nat) (p : Plan)
  | br (i : Nat) (p q : Plan)
  | nobr

def Plan.heads : Plan → List Nat
  | .br i _ q => i :: q.heads
  | _ => []
def lodO (o : Oper) : Bool := match o.op with | .load .. | .convert .. => true | _ => false
/-- Operations that may change what stood. -/
def exO (o : Oper) : Bool :=
  match o.op with
  | .store .. => true
  | .call c => (match c.callee with | .builtin .append => true | _ => false)
  | _ => false
def takeO (o : Oper) : Bool :=
  match o.op with
  | .move _ | .assign _ | .pick .. | .load .. | .fieldAddr .. | .indexAddr .. | .binOp .. | .unOp .. | .convert .. | .extract .. | .index .. | .nilCheck _ | .build .. => true
  | .call c => (match c.callee with | .builtin .len => true | _ => false)
  | _ => false
def brO (o : Oper) : Bool :=
  match o.op with
  | .alloc _ | .box .. | .buildSlice .. | .makeSlice .. | .store .. => true
  | .call c => (match c.callee with | .value _ => true | .builtin .append => true | _ => false)
  | _ => false
/-- k is i or waits for it, through others. -/
def desc (ops : Array Oper) (i : Nat) : Nat → Nat → Bool
  | 0, _ => false
  | fuel + 1, k => k == i || (match ops[k]? with
    | some o => o.after.any fun e => Region.binds .any e && desc ops i fuel e.on
    | none => false)
def okTake (ops : Array Oper) (listed : Array Bool) (i : Nat) : Bool :=
  match ops[i]? with
  | none => false
  | some oi => takeO oi && (!lodO oi || (List.range ops.size).all fun j => listed.getD j true || (match ops[j]? with | some oj => !exO oj | none => true) || desc ops i ops.size j)
def okBr (ops : Array Oper) (i : Nat) : Bool := match ops[i]? with | none => false | some o => brO o
def planOk (ops : Array Oper) : Nat → Array Bool → Bool → Plan → Bool
  | _, listed, top, .done => top && (Region.ready .any ops listed).isEmpty
  | _, _, top, .nobr => !top
  | fuel, listed, top, .take i p => decide (0 < fuel) && top && (Region.ready .any ops listed).contains i && Region.free .any ops listed i && okTake ops listed i && planOk ops (fuel - 1) (listed.setIfInBounds i true) true p
  | fuel, listed, top, .br i p q => decide (0 < fuel) && (!top || (Region.ready .any ops listed == i :: q.heads)) && okBr ops i && planOk ops (fuel - 1) (listed.setIfInBounds i true) true p && planOk ops fuel listed false q

def vcCallS (P : Program) (n : Nat) (d : Option Nat) (fn : SV) (args : List SV) (K : K0) : K0 := fun f L m =>
  match fn with
  | .c (.v (.func (.func g) first captured)) =>
    vcOut 12 args (fun vs f L m => CallKS P g (first ++ vs.toArray ++ captured) n d K f L m) f L m
  | _ => False
def vcOpS (P : Program) (n : Nat) (o : Oper) (K : K0) : K0 := fun f L m =>
  match o.op with
  | .call c => (match c.callee with
    | .value g => vcCallS P n o.dst (ev f g) (c.args.toList.map (ev f)) K f L m
    | _ => vcOp P n o K f L m)
  | _ => vcOp P n o K f L m
def vcGuard (n : Nat) (ops : Array Oper) (o : Oper) (step : K0 → K0) (K : K0) : K0 := fun f L m =>
  match o.guard with
  | none => step K f L m
  | some (j, want) => match guardSlot ops j with
    | none => False
    | some g => match f g with
      | .c (.v (.bool b)) => (b = want → step K (upd f g (.c (.v (.bool want)))) L m) ∧
          (b = (!want) → K (put n (upd f g (.c (.v (.bool !want)))) o.dst (.c (.v undef))) L m)
      | .c (.v (.tuple _)) => K (put n f o.dst (.c (.v undef))) L m
      | _ => False
def vcPlan (P : Program) (n : Nat) (ops : Array Oper) (K : K0) : Plan → K0
  | .done => K
  | .nobr => fun _ _ _ => True
  | .take i p => fun f L m => match ops[i]? with
    | some o => vcGuard n ops o (vcOp P n o) (vcPlan P n ops K p) f L m
    | none => False
  | .br i p q => fun f L m => (match ops[i]? with
    | some o => vcGuard n ops o (vcOpS P n o) (vcPlan P n ops K p) f L m
    | none => False) ∧ vcPlan P n ops K q f L m
/-- An append onto an empty slice that the same region makes. -/
def freshArg (ops : Array Oper) (o : Oper) : Bool :=
  match o.op with
  | .call c => (match c.callee, c.args.toList with
    | .builtin .append, .tmp d :: _ => ops.any fun p => (p.dst == some d) && (match p.op with | .buildSlice _ 0 _ => true | _ => false)
    | _, _ => false)
  | _ => false
def inX (xs : List Nat) (o : Oper) : Bool := match o.dst with | some d => xs.contains d | none => false
/-- What counts as changing what stood; xs: the slots of calls that do. -/
def exL (ops : Array Oper) (xs : List Nat) (o : Oper) : Bool := (exO o && !freshArg ops o) || inX xs o
/-- A box whose array has no room: an append onto it makes a new one. -/
def cap0 (o : Oper) (f : Regs) (L : Lst) : Prop :=
  match o.op with
  | .call c => (match c.args.toList with
    | x :: _ => (match ev f x with
      | .c (.bs i _) => (match look L i with | some (.arr _ _ cap) => cap = 0 | _ => False)
      | _ => False)
    | [] => False)
  | _ => False
/-- Makers whose box is always the same. -/
def lateO (o : Oper) : Bool := (match o.guard with | none => true | some _ => false) && o.dst.isSome && (match o.op with | .alloc _ => true | .buildSlice _ _ ps => ps.isEmpty | _ => false)

/-- A plan with makers that are put off: late, from here on; mk, here. -/
inductive PlanL where
  | done
  | take (i : Nat) (p : PlanL)
  | br (i : Nat) (p q : PlanL)
  | brF (i : Nat) (p q : PlanL)
  | brX (i : Nat) (p q : PlanL)
  | nobr
  | late (i : Nat) (p : PlanL)
  | mk (i : Nat) (p : PlanL)
def PlanL.heads : PlanL → List Nat
  | .br i _ q | .brF i _ q | .brX i _ q => i :: q.heads
  | _ => []
def PlanL.need : PlanL → Nat
  | .done | .nobr => 0
  | .take _ p => p.need + 1
  | .br _ p q | .brF _ p q | .brX _ p q => max (p.need + 1) q.need
  | .late _ p => p.need + 1
  | .mk _ p => p.need
def setAll (listed : Array Bool) : List Nat → Array Bool
  | [] => listed
  | i :: r => (setAll listed r).setIfInBounds i true
def remN (i : Nat) : List Nat → List Nat
  | [] => []
  | j :: r => if j = i then remN i r else j :: remN i r
def okTakeL (ops : Array Oper) (xs : List Nat) (listed : Array Bool) (i : Nat) : Bool :=
  match ops[i]? with
  | none => false
  | some oi => takeO oi && (!lodO oi || (List.range ops.size).all fun j => listed.getD j true || (match ops[j]? with | some oj => !exL ops xs oj | none => true) || desc ops i ops.size j)
/-- No other operation writes the slot. -/
def alone (ops : Array Oper) (i : Nat) : Bool :=
  match ops[i]? with
  | some o => (List.range ops.size).all fun j => j == i || (match ops[j]? with | some oj => oj.dst != o.dst | none => true)
  | none => false
def planOkL (ops : Array Oper) (xs : List Nat) : List Nat → Array Bool → Bool → PlanL → Bool
  | lt, listed, top, .done => top && lt.isEmpty && (Region.ready .any ops listed).isEmpty
  | _, _, top, .nobr => !top
  | lt, listed, top, .take i p => top && !lt.contains i && (Region.ready .any ops listed).contains i && Region.free .any ops listed i && okTakeL ops xs listed i && planOkL ops xs lt (listed.setIfInBounds i true) true p
  | lt, listed, top, .br i p q => (!top || (Region.ready .any ops (setAll listed lt) == i :: q.heads)) && !lt.contains i && okBr ops i && (match ops[i]? with | some o => !freshArg ops o | none => false) && planOkL ops xs lt (listed.setIfInBounds i true) true p && planOkL ops xs lt listed false q
  | lt, listed, top, .brF i p q => (!top || (Region.ready .any ops (setAll listed lt) == i :: q.heads)) && !lt.contains i && okBr ops i && (match ops[i]? with | some o => (match o.guard with | none => true | some _ => false) && freshArg ops o | none => false) && planOkL ops xs lt (listed.setIfInBounds i true) true p && planOkL ops xs lt listed false q
  | lt, listed, top, .brX i p q => (!top || (Region.ready .any ops (setAll listed lt) == i :: q.heads)) && !lt.contains i && (match ops[i]? with | some o => inX xs o | none => false) && planOkL ops xs lt (listed.setIfInBounds i true) true p && planOkL ops xs lt listed false q
  | lt, listed, top, .late i p => top && !lt.contains i && (Region.ready .any ops listed).contains i && (match ops[i]? with | some o => lateO o | none => false) && alone ops i && planOkL ops xs (i :: lt) listed true p
  | lt, listed, top, .mk i p => top && lt.contains i && (Region.ready .any ops (setAll listed (remN i lt)) == [i]) && planOkL ops xs (remN i lt) (listed.setIfInBounds i true) true p
/-- The slots of what is put off are not known. -/
def deads (ops : Array Oper) : List Nat → Regs → Prop
  | [], _ => True
  | i :: r, f => (match guardSlot ops i with | some d => f d = .c .dead | none => True) ∧ deads ops r f
def vcPlanL (P : Program) (n : Nat) (ops : Array Oper) (K : K0) : List Nat → PlanL → K0
  | _, .done => K
  | _, .nobr => fun _ _ _ => True
  | lt, .take i p => fun f L m => match ops[i]? with
    | some o => vcGuard n ops o (vcOp P n o) (vcPlanL P n ops K lt p) f L m
    | none => False
  | lt, .br i p q => fun f L m => deads ops lt f ∧ (match ops[i]? with
    | some o => vcGuard n ops o (vcOpS P n o) (vcPlanL P n ops K lt p) f L m
    | none => False) ∧ vcPlanL P n ops K lt q f L m
  | lt, .brF i p q => fun f L m => deads ops lt f ∧ (match ops[i]? with
    | some o => cap0 o f L ∧ vcGuard n ops o (vcOpS P n o) (vcPlanL P n ops K lt p) f L m
    | none => False) ∧ vcPlanL P n ops K lt q f L m
  | lt, .brX i p q => fun f L m => deads ops lt f ∧ (match ops[i]? with
    | some o => vcGuard n ops o (vcOp P n o) (vcPlanL P n ops K lt p) f L m
    | none => False) ∧ vcPlanL P n ops K lt q f L m
  | lt, .late i p => fun f L m => match ops[i]?, guardSlot ops i with
    | some o, some d => vcOp P n o (fun _ _ _ => True) f L m ∧ vcPlanL P n ops K (i :: lt) p (upd f d (.c .dead)) L m
    | _, _ => False
  | lt, .mk i p => fun f L m => deads ops lt f ∧ (match ops[i]? with
    | some o => vcOp P n o (vcPlanL P n ops K (remN i lt) p) f L m
    | none => False)
def vcDrawn (P : Program) (n : Nat) (ops : Array Oper) (K : K0) : K0 := fun f L m =>
  Region.noSelect ops = true ∧ ((∃ p, planOk ops ops.size (Array.replicate ops.size false) true p = true ∧ vcPlan P n ops K p f L m) ∨
    (∃ (xs : List Nat) (p : PlanL), p.need ≤ ops.size ∧ planOkL ops xs [] (Array.replicate ops.size false) true p = true ∧ vcPlanL P n ops K [] p f L m))

def vc (P : Program) (n : Nat) : Code → KE → K0
  | .skip, K => K .normal
  | .label _, K => K .normal
  | .region _ ops false, K => vcl P n ops (K .normal) ops.toList
  | .region _ ops true, K => vcDrawn P n ops (K .normal)
  | .seq a b, K => vc P n a fun e => match e with | .normal => vc P n b K | e => K e
  | .cond c a b, K => fun f L m => match ev f c with
    | .c (.v (.bool t)) => (t = true → vc P n a K f L m) ∧ (t = false → vc P n b K f L m)
    | _ => False
  | .block id c, K => vc P n c fun e => match e with
    | .exit id' => if id' = id then K .normal else K (.exit id')
    | e => K e
  | .loop c, K => vcLoop (dsts c) (vc P n c) K
  | .exit id, K => K (.exit id)
  | .ret, K => K .ret
  | _, _ => fun _ _ _ => False

/-- The end of a call: the results are handed out. -/
def resS (P : Program) (L : Lst) (f : Regs) : ResultVar → Option SV
  | .tmp t => some (f t)
  | .cell p ty => match f p with
    | .c (.bp i 0) => (match look L i with
      | some (.str _ cs) => (match tyS P ty with
        | .agg k => if k = cs.length then some (mkAg cs) else none
        | .one => (match cs with | [c] => some (.c c) | _ => none)
        | .bad => none)
      | _ => none)
    | _ => none
def resAll (P : Program) (L : Lst) (f : Regs) : List ResultVar → Option (List SV)
  | [] => some []
  | r :: rs => match resS P L f r with
    | some s => (match resAll P L f rs with | some ss => some (s :: ss) | none => none)
    | none => none
def wrapRes : List Value → Value
  | [v] => v
  | vs => .tuple vs.toArray
def vcRet (P : Program) (rs : List ResultVar) (R : Value → World → Prop) : K0 := fun f L m =>
  match resAll P L f rs with
  | some ss => vcOut 12 ss (fun vs _ _ m' => R (wrapRes vs) m') f L m
  | none => False
def endK (P : Program) (rs : List ResultVar) (R : Value → World → Prop) : KE
  | .normal | .ret => vcRet P rs R
  | _ => fun _ _ _ => False
def regs0 : List Value → Regs
  | [] => fun _ => .c (.v undef)
  | v :: vs => fun i => match i with | 0 => .c (.v v) | i + 1 => regs0 vs i
end Go.Vc

namespace Go.Vc
open Go Go.RowKit

/-! ## Lemmas on lists of boxes -/
theorem look_rem (L : Lst) (i j : Nat) : look (rem L i) j = if i = j then none else look L j := by
  induction L with
  | nil => simp [rem, look]
  | cons p r ih =>
    obtain ⟨k, b⟩ := p
    simp only [rem]
    by_cases hk : k = i
    · subst hk; simp only [if_true, ih, look]
      by_cases h : k = j <;> simp [h]
    · simp only [if_neg hk, look, ih]
      by_cases h : k = j
      · subst h; have hk' : ¬ i = k := fun e => hk e.symm
        simp [hk']
      · simp [h]
theorem look_killL (d : Nat) (L : Lst) (j : Nat) : look (killL d L) j = (look L j).map (killB d) := by
  induction L with
  | nil => simp [killL, look]
  | cons p r ih =>
    obtain ⟨k, b⟩ := p
    simp only [killL, look]
    by_cases h : k = j <;> simp [h, ih]
theorem look_setL (L : Lst) (i : Nat) (b : Box) (j : Nat) : look (setL L i b) j = if i = j then some b else look L j := by
  simp only [setL, look, look_rem]
  by_cases h : i = j <;> simp [h]

theorem concL_length {β κ : Nat → Nat} : ∀ {cs : List CV} {vs : List Value}, ConcL β κ cs vs → cs.length = vs.length
  | [], [], _ => rfl
  | _ :: _, _ :: _, h => by simp [concL_length h.2]
  | [], _ :: _, h => h.elim
  | _ :: _, [], h => h.elim
theorem concL_get {β κ : Nat → Nat} : ∀ {cs : List CV} {vs : List Value} (_ : ConcL β κ cs vs) {i : Nat} {c : CV}, cs[i]? = some c → ∃ v, vs[i]? = some v ∧ Conc β κ c v
  | [], [], _, _, _, hc => by simp at hc
  | _ :: _, _ :: _, h, 0, _, hc => by simp at hc; subst hc; exact ⟨_, rfl, h.1⟩
  | _ :: _, _ :: _, h, i + 1, _, hc => by simpa using concL_get h.2 (i := i) (by simpa using hc)
  | [], _ :: _, h, _, _, _ => h.elim
  | _ :: _, [], h, _, _, _ => h.elim
theorem concL_append {β κ : Nat → Nat} : ∀ {a : List CV} {va : List Value} {b : List CV} {vb : List Value}, ConcL β κ a va → ConcL β κ b vb → ConcL β κ (a ++ b) (va ++ vb)
  | [], [], _, _, _, h => h
  | _ :: _, _ :: _, _, _, h, k => ⟨h.1, concL_append h.2 k⟩
  | [], _ :: _, _, _, h, _ => h.elim
  | _ :: _, [], _, _, h, _ => h.elim
theorem concL_take {β κ : Nat → Nat} : ∀ {a : List CV} {va : List Value} (_ : ConcL β κ a va) (k : Nat), ConcL β κ (a.take k) (va.take k)
  | [], [], _, _ => by simp [ConcL]
  | _ :: _, _ :: _, _, 0 => by simp [ConcL]
  | _ :: _, _ :: _, h, k + 1 => ⟨h.1, concL_take h.2 k⟩
  | [], _ :: _, h, _ => h.elim
  | _ :: _, [], h, _ => h.elim
theorem concL_drop {β κ : Nat → Nat} : ∀ {a : List CV} {va : List Value} (_ : ConcL β κ a va) (k : Nat), ConcL β κ (a.drop k) (va.drop k)
  | [], [], _, _ => by simp [ConcL]
  | _ :: _, _ :: _, h, 0 => h
  | _ :: _, _ :: _, h, k + 1 => concL_drop h.2 k
  | [], _ :: _, h, _ => h.elim
  | _ :: _, [], h, _ => h.elim
theorem concL_vals (β κ : Nat → Nat) : ∀ (vs : List Value), ConcL β κ (vs.map .v) vs
  | [] => trivial
  | _ :: r => ⟨rfl, concL_vals β κ r⟩
theorem concL_of_vals {β κ : Nat → Nat} : ∀ {cs : List CV} {vs ws : List Value}, valsOf? cs = some vs → ConcL β κ cs ws → ws = vs
  | [], vs, ws, h, k => by cases ws <;> simp_all [valsOf?, ConcL]
  | .v x :: r, vs, [], h, k => k.elim
  | .v x :: r, vs, w :: ws, h, k => by
    simp only [valsOf?] at h
    cases hr : valsOf? r with
    | none => simp [hr] at h
    | some q =>
      simp only [hr, Option.some.injEq] at h
      obtain ⟨h1, h2⟩ := k
      have := concL_of_vals hr h2
      have h1' : w = x := h1
      rw [← h, this, h1']
  | .bp _ _ :: _, _, _, h, _ => by simp [valsOf?] at h
  | .bs _ _ :: _, _, _, h, _ => by simp [valsOf?] at h
  | .dead :: _, _, _, h, _ => by simp [valsOf?] at h
theorem map_of_vals : ∀ {cs : List CV} {vs : List Value}, valsOf? cs = some vs → cs = vs.map .v
  | [], vs, h => by simp [valsOf?] at h; subst h; rfl
  | .v x :: r, vs, h => by
    simp only [valsOf?] at h
    cases hr : valsOf? r with
    | none => simp [hr] at h
    | some q => simp only [hr, Option.some.injEq] at h; subst h; simp [map_of_vals hr]
  | .bp _ _ :: _, _, h => by simp [valsOf?] at h
  | .bs _ _ :: _, _, h => by simp [valsOf?] at h
  | .dead :: _, _, h => by simp [valsOf?] at h

/-- A box that is laid anew: what the symbols meant they mean still, its own number struck. -/
theorem conc_kill {β κ : Nat → Nat} {d b c : Nat} {x : CV} {y : Value} (h : Conc β κ x y) : Conc (fun j => if j = d then b else β j) (fun j => if j = d then c else κ j) (killC d x) y := by
  cases x with
  | v x => exact h
  | bp i o => simp only [killC]; split <;> simp_all [Conc]
  | bs i n => simp only [killC]; split <;> simp_all [Conc]
  | dead => trivial
theorem concL_kill {β κ : Nat → Nat} {d b c : Nat} : ∀ {xs : List CV} {ys : List Value}, ConcL β κ xs ys → ConcL (fun j => if j = d then b else β j) (fun j => if j = d then c else κ j) (xs.map (killC d)) ys
  | [], [], _ => trivial
  | _ :: _, _ :: _, h => ⟨conc_kill h.1, concL_kill h.2⟩
  | [], _ :: _, h => h.elim
  | _ :: _, [], h => h.elim
theorem concS_kill {β κ : Nat → Nat} {d b c : Nat} {x : SV} {y : Value} (h : ConcS β κ x y) : ConcS (fun j => if j = d then b else β j) (fun j => if j = d then c else κ j) (killS d x) y := by
  cases x with
  | c x => exact conc_kill h
  | ag cs => obtain ⟨vs, rfl, h⟩ := h; exact ⟨vs, rfl, concL_kill h⟩

/-! ## The relation between the symbols and the machine -/
/-- What a box holds. -/
def Holds (P : Program) (β κ : Nat → Nat) (i : Nat) : Box → Array Value → Prop
  | .str _ cvs, cs => ConcL β κ cvs cs.toList
  | .arr ty vs cap, cs => ∃ junk, cs.toList = vs ++ junk ∧ κ i = cap ∧ cap ≤ maxLen ∧ (∀ s, (P.info? ty).map (·.size) = some s → cs.size = cap * s)

structure Sim (P : Program) (n : Nat) (m0 w0 : World) (β κ : Nat → Nat) (f : Regs) (L : Lst) (m : World) (a : Act) (w : World) : Prop where
  size : a.tmps.size = n
  defers : a.defers = []
  slots : ∀ i, ConcS β κ (f i) (a.tmps.getD i undef)
  boxes : ∀ i bx, look L i = some bx → (∃ cs, w.heap[β i]? = some (.cells cs bx.ty (0, 0)) ∧ Holds P β κ i bx cs) ∧ ¬ vis m (β i) ∧ (β i < w0.heap.size → vis m0 (β i))
  inj : ∀ i j bx by', look L i = some bx → look L j = some by' → β i = β j → i = j
  under : Under m w
  sizes : Wd w0 w
  frame : ∀ b, b < w0.heap.size → ¬ vis m0 b → w.heap[b]? = w0.heap[b]? ∧ ¬ vis m b

/-- What an operation that writes the slots ds leaves alone. -/
structure Keep (ds : List Nat) (β κ : Nat → Nat) (a : Act) (β' κ' : Nat → Nat) (a' : Act) : Prop where
  beta : ∀ j, j ∉ ds → β' j = β j
  kappa : ∀ j, j ∉ ds → κ' j = κ j
  tmps : ∀ j, j ∉ ds → a'.tmps.getD j undef = a.tmps.getD j undef

theorem Keep.refl (ds : List Nat) (β κ : Nat → Nat) (a : Act) : Keep ds β κ a β κ a := ⟨fun _ _ => rfl, fun _ _ => rfl, fun _ _ => rfl⟩
theorem Keep.trans {ds es : List Nat} {β κ β' κ' β'' κ'' : Nat → Nat} {a a' a'' : Act} (h : Keep ds β κ a β' κ' a') (k : Keep es β' κ' a' β'' κ'' a'') : Keep (ds ++ es) β κ a β'' κ'' a'' :=
  ⟨fun j hj => by simp at hj; rw [k.beta j hj.2, h.beta j hj.1], fun j hj => by simp at hj; rw [k.kappa j hj.2, h.kappa j hj.1], fun j hj => by simp at hj; rw [k.tmps j hj.2, h.tmps j hj.1]⟩
theorem Keep.mono {ds es : List Nat} {β κ β' κ' : Nat → Nat} {a a' : Act} (h : Keep ds β κ a β' κ' a') (hs : ∀ j, j ∈ ds → j ∈ es) : Keep es β κ a β' κ' a' :=
  ⟨fun j hj => h.beta j (fun e => hj (hs j e)), fun j hj => h.kappa j (fun e => hj (hs j e)), fun j hj => h.tmps j (fun e => hj (hs j e))⟩

theorem getD_put {a : Act} {d : Nat} {v : Value} {n : Nat} (hn : a.tmps.size = n) (i : Nat) : (a.put (some d) v).tmps.getD i undef = if i = d ∧ d < n then v else a.tmps.getD i undef := by
  simp only [Act.put, Array.getD_eq_getD_getElem?, Array.getElem?_setIfInBounds]
  by_cases h : d = i
  · subst h
    by_cases hd : d < a.tmps.size
    · simp [hd, hn ▸ hd]
    · have : ¬ d < n := hn ▸ hd
      simp [hd, this]
  · have h' : ¬ i = d := fun e => h e.symm
    simp [h, h']

theorem Act.size_put (a : Act) (d : Option Nat) (v : Value) : (a.put d v).tmps.size = a.tmps.size := by cases d <;> simp [Act.put]
theorem Act.defers_put (a : Act) (d : Option Nat) (v : Value) : (a.put d v).defers = a.defers := by cases d <;> rfl

section
variable {P : Program} {n : Nat} {m0 w0 : World} {β κ : Nat → Nat} {f : Regs} {L : Lst} {m : World} {a : Act} {w : World}

/-- A slot is written. -/
theorem Sim.put (h : Sim P n m0 w0 β κ f L m a w) (d : Option Nat) {x : SV} {v : Value} (hv : ConcS β κ x v) : Sim P n m0 w0 β κ (put n f d x) L m (a.put d v) w where
  size := by rw [Act.size_put]; exact h.size
  defers := by rw [Act.defers_put]; exact h.defers
  slots := fun i => by
    cases d with
    | none => exact h.slots i
    | some d =>
      rw [getD_put h.size]
      simp only [Go.Vc.put]
      by_cases hd : d < n
      · simp only [hd, if_true, upd]
        by_cases hi : i = d
        · simp [hi, hv]
        · simp only [hi, false_and, if_false]; exact h.slots i
      · simp only [hd, if_false, and_false]; exact h.slots i
  boxes := h.boxes
  inj := h.inj
  under := h.under
  sizes := h.sizes
  frame := h.frame
theorem keep_put (a : Act) (d : Option Nat) (v : Value) : Keep d.toList β κ a β κ (a.put d v) :=
  ⟨fun _ _ => rfl, fun _ _ => rfl, fun j hj => by
    cases d with
    | none => rfl
    | some d => rw [getD_put rfl, if_neg (fun e => hj (by simp [e.1]))]⟩

theorem vis_lt (hu : Under m w) {b : Nat} (h : vis m b) : b < w.heap.size := by
  have h1 := hu.blocks b h
  obtain ⟨o, ho, _⟩ := h
  rw [ho] at h1
  exact (Array.getElem?_eq_some_iff.1 h1).1

theorem Under.alloc (hu : Under m w) (o : Obj) : Under m (w.alloc o) :=
  ⟨fun b hb => by rw [Go.heap_alloc_old w o (vis_lt hu hb)]; exact hu.blocks b hb, hu.os, hu.tape, hu.output⟩

/-- A box is laid. -/
theorem Sim.create (h : Sim P n m0 w0 β κ f L m a w) {d : Nat} (hd : d < n) {ty : TypeId} {cs : Array Value} {bx : Box} {c : Nat} {x : CV} {v : Value}
    (hty : bx.ty = ty) (hb : Holds P (fun j => if j = d then w.heap.size else β j) (fun j => if j = d then c else κ j) d (killB d bx) cs)
    (hv : Conc (fun j => if j = d then w.heap.size else β j) (fun j => if j = d then c else κ j) x v) :
    Sim P n m0 w0 (fun j => if j = d then w.heap.size else β j) (fun j => if j = d then c else κ j) (upd (killR d f) d (.c x)) ((d, killB d bx) :: rem (killL d L) d) m (a.put (some d) v) (w.alloc (.cells cs ty)) where
  size := by rw [Act.size_put]; exact h.size
  defers := by rw [Act.defers_put]; exact h.defers
  slots := fun i => by
    rw [getD_put h.size]
    simp only [upd]
    by_cases hi : i = d
    · subst hi; simp only [hd, and_true, if_true]; exact hv
    · simp only [hi, false_and, if_false, killR]; exact concS_kill (h.slots i)
  boxes := fun i b hl => by
    simp only [look, look_rem, look_killL] at hl
    by_cases hi : d = i
    · subst hi
      simp only [if_true, Option.some.injEq] at hl
      subst hl
      have hkt : (killB d bx).ty = ty := by rw [← hty]; cases bx <;> rfl
      refine ⟨⟨cs, ?_, hb⟩, fun hv' => ?_, ?_⟩
      · simp only [if_true, hkt]; exact Go.heap_alloc_new w _
      · simp only [if_true] at hv'; exact absurd (vis_lt h.under hv') (Nat.lt_irrefl _)
      · simp only [if_true]; exact fun hlt => absurd (Nat.lt_of_lt_of_le hlt h.sizes.1) (Nat.lt_irrefl _)
    · simp only [if_neg hi] at hl
      cases hb' : look L i with
      | none => simp [hb'] at hl
      | some b0 =>
        simp only [hb', Option.map_some, Option.some.injEq] at hl
        subst hl
        obtain ⟨⟨cs', hc, hh⟩, h2, h3⟩ := h.boxes i b0 hb'
        have hi' : ¬ i = d := fun e => hi e.symm
        have hlt : β i < w.heap.size := (Array.getElem?_eq_some_iff.1 hc).1
        have hkt : (killB d b0).ty = b0.ty := by cases b0 <;> rfl
        refine ⟨⟨cs', ?_, ?_⟩, by simpa [hi'] using h2, by simpa [hi'] using h3⟩
        · simp only [hi', if_false, hkt]; rw [Go.heap_alloc_old w _ hlt]; exact hc
        · cases b0 with
          | str t q => exact concL_kill hh
          | arr t vs cap =>
            obtain ⟨junk, q1, q2, q3, q4⟩ := hh
            exact ⟨junk, q1, by simpa [hi'] using q2, q3, q4⟩
  inj := fun i j bi bj hi hj e => by
    have lt : ∀ k bk, look L k = some bk → β k < w.heap.size := fun k bk hk => by
      obtain ⟨⟨cs', hc, _⟩, _⟩ := h.boxes k bk hk
      exact (Array.getElem?_eq_some_iff.1 hc).1
    simp only [look, look_rem, look_killL] at hi hj
    by_cases h1 : d = i <;> by_cases h2 : d = j
    · exact h1 ▸ h2 ▸ rfl
    · simp only [if_neg h2] at hj
      cases hb' : look L j with
      | none => simp [hb'] at hj
      | some b0 =>
        have h2' : ¬ j = d := fun e => h2 e.symm
        simp only [← h1, if_true, h2', if_false] at e
        have := lt j b0 hb'
        omega
    · simp only [if_neg h1] at hi
      cases hb' : look L i with
      | none => simp [hb'] at hi
      | some b0 =>
        have h1' : ¬ i = d := fun e => h1 e.symm
        simp only [← h2, if_true, h1', if_false] at e
        have := lt i b0 hb'
        omega
    · simp only [if_neg h1] at hi
      simp only [if_neg h2] at hj
      have h1' : ¬ i = d := fun e => h1 e.symm
      have h2' : ¬ j = d := fun e => h2 e.symm
      simp only [h1', h2', if_false] at e
      cases hb1 : look L i with
      | none => simp [hb1] at hi
      | some b1 => cases hb2 : look L j with
        | none => simp [hb2] at hj
        | some b2 => exact h.inj i j b1 b2 hb1 hb2 e
  under := h.under.alloc _
  sizes := h.sizes.trans (Wd.alloc _ _ _)
  frame := fun b hb hv' => by
    have h1 := h.frame b hb hv'
    have := h.sizes.1
    rw [Go.heap_alloc_old w _ (show b < w.heap.size by omega)]; exact h1
theorem keep_create (a : Act) (d : Nat) (v : Value) (b c : Nat) : Keep [d] β κ a (fun j => if j = d then b else β j) (fun j => if j = d then c else κ j) (a.put (some d) v) :=
  ⟨fun j hj => by simp at hj; simp [hj], fun j hj => by simp at hj; simp [hj], (keep_put (β := β) (κ := κ) a (some d) v).tmps⟩
end
end Go.Vc

namespace Go.Vc
open Go Go.RowKit
section
variable {P : Program} {n : Nat} {m0 w0 : World} {β κ : Nat → Nat} {f : Regs} {L : Lst} {m : World} {a : Act} {w : World}

theorem Sim.sub {L' : Lst} (h : Sim P n m0 w0 β κ f L m a w) (hs : ∀ i bx, look L' i = some bx → look L i = some bx) : Sim P n m0 w0 β κ f L' m a w :=
  ⟨h.size, h.defers, h.slots, fun i bx hl => h.boxes i bx (hs i bx hl), fun i j bx by' hi hj e => h.inj i j bx by' (hs _ _ hi) (hs _ _ hj) e, h.under, h.sizes, h.frame⟩

theorem Sim.block_lt (h : Sim P n m0 w0 β κ f L m a w) {i : Nat} {bx : Box} (hl : look L i = some bx) : β i < w.heap.size := by
  obtain ⟨⟨cs', hc, _⟩, _⟩ := h.boxes i bx hl
  exact (Array.getElem?_eq_some_iff.1 hc).1

theorem killB_ty (d : Nat) (bx : Box) : (killB d bx).ty = bx.ty := by cases bx <;> rfl

/-- A box stands at block g, new or one that had been a box's. -/
theorem Sim.place (h : Sim P n m0 w0 β κ f L m a w) {d : Nat} (hd : d < n) {cs : Array Value} {bx : Box} {c g : Nat} {x : CV} {v : Value} {w' : World}
    (hg : w'.heap[g]? = some (.cells cs bx.ty (0, 0))) (hother : ∀ b, b ≠ g → b < w.heap.size → w'.heap[b]? = w.heap[b]?)
    (hsz : Wd w w') (hos : w'.os = w.os) (htape : w'.tape = w.tape) (hout : w'.output = w.output)
    (hng : ¬ vis m g) (hg0 : g < w0.heap.size → vis m0 g) (hfree : ∀ j b, look L j = some b → j ≠ d → β j ≠ g)
    (hb : Holds P (fun j => if j = d then g else β j) (fun j => if j = d then c else κ j) d (killB d bx) cs)
    (hv : Conc (fun j => if j = d then g else β j) (fun j => if j = d then c else κ j) x v) :
    Sim P n m0 w0 (fun j => if j = d then g else β j) (fun j => if j = d then c else κ j) (upd (killR d f) d (.c x)) ((d, killB d bx) :: rem (killL d L) d) m (a.put (some d) v) w' where
  size := by rw [Act.size_put]; exact h.size
  defers := by rw [Act.defers_put]; exact h.defers
  slots := fun i => by
    rw [getD_put h.size]
    simp only [upd]
    by_cases hi : i = d
    · subst hi; simp only [hd, and_true, if_true]; exact hv
    · simp only [hi, false_and, if_false, killR]; exact concS_kill (h.slots i)
  boxes := fun i b hl => by
    simp only [look, look_rem, look_killL] at hl
    by_cases hi : d = i
    · subst hi
      simp only [if_true, Option.some.injEq] at hl
      subst hl
      refine ⟨⟨cs, by simp only [if_true, killB_ty]; exact hg, hb⟩, by simpa using hng, by simpa using hg0⟩
    · simp only [if_neg hi] at hl
      cases hb' : look L i with
      | none => simp [hb'] at hl
      | some b0 =>
        simp only [hb', Option.map_some, Option.some.injEq] at hl
        subst hl
        obtain ⟨⟨cs', hc, hh⟩, h2, h3⟩ := h.boxes i b0 hb'
        have hi' : ¬ i = d := fun e => hi e.symm
        refine ⟨⟨cs', ?_, ?_⟩, by simpa [hi'] using h2, by simpa [hi'] using h3⟩
        · simp only [hi', if_false, killB_ty]; rw [hother _ (hfree i b0 hb' hi') (h.block_lt hb')]; exact hc
        · cases b0 with
          | str t q => exact concL_kill hh
          | arr t vs cap =>
            obtain ⟨junk, q1, q2, q3, q4⟩ := hh
            exact ⟨junk, q1, by simpa [hi'] using q2, q3, q4⟩
  inj := fun i j bi bj hi hj e => by
    simp only [look, look_rem, look_killL] at hi hj
    by_cases h1 : d = i <;> by_cases h2 : d = j
    · exact h1 ▸ h2 ▸ rfl
    · simp only [if_neg h2] at hj
      cases hb' : look L j with
      | none => simp [hb'] at hj
      | some b0 =>
        have h2' : ¬ j = d := fun e => h2 e.symm
        simp only [← h1, if_true, h2', if_false] at e
        exact absurd e.symm (hfree j b0 hb' h2')
    · simp only [if_neg h1] at hi
      cases hb' : look L i with
      | none => simp [hb'] at hi
      | some b0 =>
        have h1' : ¬ i = d := fun e => h1 e.symm
        simp only [← h2, if_true, h1', if_false] at e
        exact absurd e (hfree i b0 hb' h1')
    · simp only [if_neg h1] at hi
      simp only [if_neg h2] at hj
      have h1' : ¬ i = d := fun e => h1 e.symm
      have h2' : ¬ j = d := fun e => h2 e.symm
      simp only [h1', h2', if_false] at e
      cases hb1 : look L i with
      | none => simp [hb1] at hi
      | some b1 => cases hb2 : look L j with
        | none => simp [hb2] at hj
        | some b2 => exact h.inj i j b1 b2 hb1 hb2 e
  under := ⟨fun b hb => by rw [hother b (fun e => hng (e ▸ hb)) (vis_lt h.under hb)]; exact h.under.blocks b hb, hos.trans h.under.os, htape.trans h.under.tape, hout.trans h.under.output⟩
  sizes := h.sizes.trans hsz
  frame := fun b hb hv' => by
    have h1 := h.frame b hb hv'
    have := h.sizes.1
    rw [hother b (fun e => hv' (e.symm ▸ hg0 (e ▸ hb))) (by omega)]; exact h1

/-- What a box of the call's own holds is written. -/
theorem Sim.write (h : Sim P n m0 w0 β κ f L m a w) {i : Nat} {bx bx' : Box} (hl : look L i = some bx) (hty : bx'.ty = bx.ty) {cs cs' : Array Value}
    (hc : w.heap[β i]? = some (.cells cs bx.ty (0, 0))) (hh : Holds P β κ i bx' cs') : Sim P n m0 w0 β κ f (setL L i bx') m a (w.setRow (β i) cs') where
  size := h.size
  defers := h.defers
  slots := h.slots
  boxes := fun j b hj => by
    rw [look_setL] at hj
    by_cases hi : i = j
    · subst hi
      simp only [if_true, Option.some.injEq] at hj
      subst hj
      obtain ⟨_, h2, h3⟩ := h.boxes i bx hl
      exact ⟨⟨cs', by rw [hty]; exact setRow_heap w (β i) cs cs' bx.ty (0, 0) hc, hh⟩, h2, h3⟩
    · simp only [if_neg hi] at hj
      obtain ⟨⟨cq, hcq, hhq⟩, h2, h3⟩ := h.boxes j b hj
      refine ⟨⟨cq, ?_, hhq⟩, h2, h3⟩
      rw [setRow_other w (β i) (β j) cs' (fun e => hi (h.inj i j bx b hl hj e.symm))]
      exact hcq
  inj := fun j k bj bk hj hk e => by
    rw [look_setL] at hj hk
    have hj' : ∃ q, look L j = some q := by by_cases hi : i = j <;> simp_all
    have hk' : ∃ q, look L k = some q := by by_cases hi : i = k <;> simp_all
    obtain ⟨qj, hqj⟩ := hj'
    obtain ⟨qk, hqk⟩ := hk'
    exact h.inj j k qj qk hqj hqk e
  under := ⟨fun b hb => by
    obtain ⟨_, h2, _⟩ := h.boxes i bx hl
    rw [setRow_other w (β i) b cs' (fun e => h2 (e ▸ hb))]
    exact h.under.blocks b hb, h.under.os, h.under.tape, h.under.output⟩
  sizes := h.sizes.trans (Wd.setRow _ _ _)
  frame := fun b hb hv => by
    have h1 := h.frame b hb hv
    obtain ⟨_, h2, h3⟩ := h.boxes i bx hl
    rw [setRow_other w (β i) b cs' (fun e => hv (e.symm ▸ h3 (e ▸ hb)))]
    exact h1

theorem ev_conc (h : Sim P n m0 w0 β κ f L m a w) (x : Operand) : ConcS β κ (ev f x) (a.eval x) := by
  cases x with
  | tmp t => exact h.slots t
  | const v => rfl
  | global g => rfl
  | func g => rfl

/-! ## Operations -/
abbrev Abs (P : Program) (n : Nat) (m0 w0 : World) (β κ : Nat → Nat) (a : Act) (ds : List Nat) (K : K0) (Ka : Act → World → Prop) : Prop :=
  ∀ β' κ' f' L' m' a' w', Sim P n m0 w0 β' κ' f' L' m' a' w' → Keep ds β κ a β' κ' a' → K f' L' m' → Ka a' w'

theorem wp_value {o : Oper} {Ka : Act → World → Prop} {Q : Exit → Act → World → Prop} {v : Value} {w' : World} (hr : (execOp a.eval o).run P w = .ok (.value v) w') (h : Ka (a.put o.dst v) w') : o.wp P a w Ka Q := by
  unfold Oper.wp; rw [hr]; exact h
theorem wp_skipped {o : Oper} {Ka : Act → World → Prop} {Q : Exit → Act → World → Prop} {w' : World} (hr : (execOp a.eval o).run P w = .ok .skip w') (h : Ka (a.put o.dst undef) w') : o.wp P a w Ka Q := by
  unfold Oper.wp; rw [hr]; exact h

theorem run_v {s : Sem Value} {v : Value} {w' : World} (h : s.run P w = .ok v w') : (do pure (Next.value (← s)) : Sem Next).run P w = .ok (.value v) w' := by
  simp [h]

/-- The cells of a value, as the symbols have them. -/
theorem cellsOf_conc {x : SV} {v : Value} {cs : List CV} (h : ConcS β κ x v) (hc : cellsOf? x = some cs) : ConcL β κ cs v.cells.toList := by
  cases x with
  | ag q =>
    simp only [cellsOf?, Option.some.injEq] at hc
    subst hc
    obtain ⟨vs, rfl, h⟩ := h
    simpa [Value.cells] using h
  | c y =>
    cases y with
    | bp i o => simp only [cellsOf?, Option.some.injEq] at hc; subst hc; have h : v = _ := h; subst h; simp [Value.cells, ConcL, Conc]
    | bs i k => simp only [cellsOf?, Option.some.injEq] at hc; subst hc; have h : v = _ := h; subst h; simp [Value.cells, ConcL, Conc]
    | dead => simp [cellsOf?] at hc
    | v y =>
      have h : v = y := h
      subst h
      cases v <;> simp only [cellsOf?, Option.some.injEq] at hc <;> first | (cases hc; done) | (subst hc; simp [Value.cells, ConcL, Conc]; try exact concL_vals _ _ _)

theorem mkAg_conc {cs : List CV} {vs : List Value} (h : ConcL β κ cs vs) : ConcS β κ (mkAg cs) (.agg vs.toArray) := by
  unfold mkAg
  cases hv : valsOf? cs with
  | none => exact ⟨vs, rfl, h⟩
  | some q => rw [concL_of_vals hv h]; rfl

theorem tyS_one {t : TypeId} (h : tyS P t = .one) (w : World) : (isAgg t).run P w = .ok false w ∧ (sizeOf t).run P w = .ok 1 w := by
  unfold tyS at h
  unfold isAgg underlying sizeOf typeInfo
  cases hu : P.underlying t with
  | none => simp [hu] at h
  | some d =>
    cases hi : P.info? t with
    | none => cases d <;> simp [hu, hi] at h
    | some i => cases d <;> simp only [hu, hi] at h <;> first | (cases h; done) | (split at h <;> first | (cases h; done) | (rename_i h1; simp [h1, hi, hu]))
theorem tyS_agg {t : TypeId} {k : Nat} (h : tyS P t = .agg k) (w : World) : (isAgg t).run P w = .ok true w ∧ (sizeOf t).run P w = .ok k w := by
  unfold tyS at h
  unfold isAgg underlying sizeOf typeInfo
  cases hu : P.underlying t with
  | none => simp [hu] at h
  | some d =>
    cases hi : P.info? t with
    | none => cases d <;> simp [hu, hi] at h
    | some i => cases d <;> simp only [hu, hi, TS.agg.injEq] at h <;> first | (cases h; done) | (subst h; simp [hi, hu]) | (split at h <;> cases h)
theorem tyS_run {t : TypeId} (h : tyS P t ≠ .bad) (w : World) : (sizeOf t).run P w = .ok (sizeTS (tyS P t)) w := by
  cases ht : tyS P t with
  | one => exact (tyS_one ht w).2
  | agg k => exact (tyS_agg ht w).2
  | bad => exact absurd ht h
end
end Go.Vc

namespace Go.Vc
open Go Go.RowKit
section
variable {P : Program} {n : Nat} {m0 w0 : World} {β κ : Nat → Nat} {f : Regs} {L : Lst} {m : World} {a : Act} {w : World}
  {K : K0} {Ka : Act → World → Prop} {Q : Exit → Act → World → Prop}

theorem add_lit0 (b o j : Nat) : (⟨b, o, none⟩ : Addr).add j = ⟨b, o + j, none⟩ := by unfold Addr.add; split <;> simp_all

/-- A value that is known is put. -/
theorem put_step {o : Oper} {x : SV} {v : Value} (hs : Sim P n m0 w0 β κ f L m a w) (hr : (execOp a.eval o).run P w = .ok (.value v) w) (hv : ConcS β κ x v)
    (h : K (put n f o.dst x) L m) (hK : Abs P n m0 w0 β κ a o.dst.toList K Ka) : o.wp P a w Ka Q :=
  wp_value hr (hK _ _ _ _ _ _ _ (hs.put o.dst hv) (keep_put a o.dst v) h)

theorem run_alloc_box (ty : TypeId) (v : Value) : (newVar ty v).run P w = .ok ⟨w.heap.size, 0, none⟩ (w.alloc (.cells v.cells ty)) := by
  simp [newVar, newRow]

theorem create_step {o : Oper} {bx : Box} {mk : Nat → CV} {cs : Array Value} {v : Value} {c : Nat} {w1 : World}
    (hs : Sim P n m0 w0 β κ f L m a w) (hr : (execOp a.eval o).run P w1 = .ok (.value v) (w.alloc (.cells cs bx.ty)))
    (hb : ∀ d, o.dst = some d → Holds P (fun j => if j = d then w.heap.size else β j) (fun j => if j = d then c else κ j) d (killB d bx) cs)
    (hv : ∀ d, o.dst = some d → Conc (fun j => if j = d then w.heap.size else β j) (fun j => if j = d then c else κ j) (mk d) v)
    (h : create n o.dst bx mk K f L m) (hK : Abs P n m0 w0 β κ a o.dst.toList K Ka) : o.wp P a w1 Ka Q := by
  unfold create at h
  cases hd : o.dst with
  | none => simp [hd] at h
  | some d =>
    simp only [hd] at h
    split at h
    · rename_i hdn
      refine wp_value hr ?_
      rw [hd]
      refine hK _ _ _ _ _ _ _ (hs.place hdn (g := w.heap.size) (c := c) (x := mk d) (Go.heap_alloc_new w _) (fun b _ hb => Go.heap_alloc_old w _ hb) (Wd.alloc w _ _) rfl rfl rfl
        (fun hv' => absurd (vis_lt hs.under hv') (Nat.lt_irrefl _)) (fun hlt => absurd (Nat.lt_of_lt_of_le hlt hs.sizes.1) (Nat.lt_irrefl _)) (fun j b hj _ => Nat.ne_of_lt (hs.block_lt hj)) (hb d hd) (hv d hd)) ?_ h
      rw [hd]; exact keep_create a d v _ _
    · exact h.elim

theorem zeroC_run {t : TypeId} {z : List Value} (h : zeroC P t = some z) (w : World) : ∃ v, (zeroValue t).run P w = .ok v w ∧ v.cells.toList = z := by
  unfold zeroC at h
  unfold zeroValue typeInfo
  cases hi : P.info? t with
  | none => simp [hi] at h
  | some i =>
    cases hz : i.zero with
    | none => simp [hi, hz] at h
    | some v => simp only [hi, hz, Option.bind_some, Option.map_some, Option.some.injEq] at h; exact ⟨v, by simp [hi, hz], h⟩

/-! ### Loads -/
theorem run_loadVar_one {t : TypeId} (ht : tyS P t = .one) {ad : Addr} {v : Value} (hc : w.cell? ad = some v) : (loadVar t ad).run P w = .ok v w := by
  simp [loadVar, (tyS_one ht w).1, hc]
theorem run_loadVar_agg {t : TypeId} {k : Nat} (ht : tyS P t = .agg k) {ad : Addr} {vs : List Value} (hl : vs.length = k) (hc : ∀ j v, vs[j]? = some v → w.cell? (ad.add j) = some v) : (loadVar t ad).run P w = .ok (.agg vs.toArray) w := by
  have := run_loadCells_list (P := P) w ad vs hc
  rw [hl] at this
  simp [loadVar, (tyS_agg ht w).1, (tyS_agg ht w).2, this]

theorem oneCell_eq (v : Value) : v.oneCell' = oneCell v := by cases v <;> rfl

theorem run_storeCells_mem : ∀ (vs : List Value) (ad : Addr) (i : Nat) (w : World), ad.spot = none → (∀ v ∈ vs, oneCell v = true) →
    (∀ j, j < vs.length → (w.cell? (ad.add (i + j))).isSome = true ∧ w.frozen? (ad.add (i + j)) = false) → (storeCells ad vs i).run P w = .ok () (setCells w (ad.add i) vs)
  | [], _, _, _, _, _, _ => rfl
  | v :: r, ad, i, w, hsp, h1, hc => by
    have hadd : ∀ k, ad.add k = ⟨ad.block, ad.off + k, none⟩ := fun k => by
      obtain ⟨b, o, s⟩ := ad
      have hsp : s = none := hsp
      subst hsp; exact add_lit0 b o k
    obtain ⟨h0, h0f⟩ := hc 0 (by simp)
    obtain ⟨u, hu⟩ := Option.isSome_iff_exists.1 h0
    simp only [Nat.add_zero] at hu h0f
    have hst : (store (ad.add i) v).run P w = .ok () (w.setCell (ad.add i) v) := by
      rw [run_store P w _ v _ (by rw [oneCell_eq]; exact h1 v (by simp)), hu]; simp [h0f]
    have ih := run_storeCells_mem r ad (i + 1) (w.setCell (ad.add i) v) hsp (fun x hx => h1 x (by simp [hx])) (fun j hj => by
      obtain ⟨p1, p2⟩ := hc (j + 1) (by simp; omega)
      rw [show i + 1 + j = i + (j + 1) by omega]
      refine ⟨?_, by rw [World.frozen?_setCell]; exact p2⟩
      rw [World.cell?_setCell_other _ _ _ _ (by rw [hadd, hadd]; intro e; injection e with _ e _; omega)]
      exact p1)
    simp only [storeCells, Sem.run_bind, hst, Result.andThen_ok, ih, setCells]
    congr 2
    rw [hadd, hadd]
    show _ = (⟨ad.block, ad.off + i, none⟩ : Addr).add 1
    rw [add_lit0]; congr 1

/-- A store into memory that is seen turns what is seen alike. -/
theorem under_setCell (hu : Under m w) {ad : Addr} (hc : (m.cell? ad).isSome = true) (v : Value) : Under (m.setCell ad v) (w.setCell ad v) := by
  obtain ⟨u, hc⟩ := Option.isSome_iff_exists.1 hc
  have hv := vis_of_cell hc
  refine ⟨fun b hb => ?_, hu.os, hu.tape, hu.output⟩
  have hvb : vis m b := by
    obtain ⟨o, ho, hne⟩ := hb
    simp only [World.setCell, Array.getElem?_modify] at ho
    split at ho
    · rename_i e; exact e ▸ hv
    · exact ⟨o, ho, hne⟩
  simp only [World.setCell, Array.getElem?_modify, hu.blocks b hvb]

end
end Go.Vc

namespace Go.Vc
open Go Go.RowKit
section
variable {P : Program} {n : Nat} {m0 w0 : World} {β κ : Nat → Nat} {f : Regs} {L : Lst} {m : World} {a : Act} {w : World}
  {K : K0} {Ka : Act → World → Prop} {Q : Exit → Act → World → Prop}

theorem Sim.setCell (h : Sim P n m0 w0 β κ f L m a w) {ad : Addr} (hc : (m.cell? ad).isSome = true) (v : Value) : Sim P n m0 w0 β κ f L (m.setCell ad v) a (w.setCell ad v) := by
  have hv : vis m ad.block := by obtain ⟨u, hu⟩ := Option.isSome_iff_exists.1 hc; exact vis_of_cell hu
  have hvis : ∀ b, vis (m.setCell ad v) b → vis m b := fun b hb => by
    obtain ⟨o, ho, hne⟩ := hb
    simp only [World.setCell, Array.getElem?_modify] at ho
    split at ho
    · rename_i e; exact e ▸ hv
    · exact ⟨o, ho, hne⟩
  have hoth : ∀ b, b ≠ ad.block → (w.setCell ad v).heap[b]? = w.heap[b]? := fun b hb => Go.heap_setCell_other w ad b v hb
  refine ⟨h.size, h.defers, h.slots, fun i bx hl => ?_, h.inj, under_setCell h.under hc v, h.sizes.trans (Wd.setCell _ _ _), fun b hb hn => ?_⟩
  · obtain ⟨⟨cs, q1, q2⟩, q3, q4⟩ := h.boxes i bx hl
    exact ⟨⟨cs, by rw [hoth (β i) (fun e => q3 (by rw [e]; exact hv))]; exact q1, q2⟩, fun hx => q3 (hvis _ hx), q4⟩
  · obtain ⟨q1, q2⟩ := h.frame b hb hn
    exact ⟨by rw [hoth b (fun e => q2 (by rw [e]; exact hv))]; exact q1, fun hx => q2 (hvis _ hx)⟩

theorem Sim.setCells : ∀ (vs : List Value) (ad : Addr) {m w : World}, Sim P n m0 w0 β κ f L m a w → ad.spot = none → (∀ j, j < vs.length → (m.cell? (ad.add j)).isSome = true) → Sim P n m0 w0 β κ f L (Go.Vc.setCells m ad vs) a (Go.Vc.setCells w ad vs)
  | [], _, _, _, h, _, _ => h
  | v :: r, ad, m, w, h, hsp, hc => by
    have hadd : ∀ k, ad.add k = ⟨ad.block, ad.off + k, none⟩ := fun k => by
      obtain ⟨b, o, s⟩ := ad
      have hsp : s = none := hsp
      subst hsp; exact add_lit0 b o k
    have hadd0 : ad.add 0 = ad := by simp [Addr.add]
    have h0 := hc 0 (by simp)
    rw [hadd0] at h0
    refine Sim.setCells r (ad.add 1) (h.setCell h0 v) (by rw [hadd]) (fun j hj => ?_)
    have := hc (j + 1) (by simp; omega)
    rw [hadd 1, add_lit0, show ad.off + 1 + j = ad.off + (j + 1) by omega, ← hadd (j + 1)]
    rw [World.cell?_setCell_other _ _ _ _ (by rw [hadd]; intro e; have e := congrArg Addr.off e; simp only at e; omega)]
    exact this

theorem splice_conc {cs ys : List CV} {vs : List Value} {yv : List Value} {off : Nat} (h : ConcL β κ cs vs) (hy : ConcL β κ ys yv) : ConcL β κ (splice cs off ys) (vs.take off ++ yv ++ vs.drop (off + yv.length)) := by
  unfold splice
  rw [concL_length hy, List.append_assoc]
  exact concL_append (concL_take h off) (concL_append hy (concL_drop h _))

theorem concL_one : ∀ {xs : List CV} {vs : List Value}, ConcL β κ xs vs → xs.all goodC = true → ∀ v ∈ vs, oneCell v = true
  | [], [], _, _, _, hv => by cases hv
  | x :: xs, y :: ys, h, hg, v, hv => by
    simp only [List.all_cons, Bool.and_eq_true] at hg
    rcases List.mem_cons.1 hv with rfl | hv
    · cases x with
      | v z => have h1 : v = z := h.1; subst h1; exact hg.1
      | bp i o => have h1 : v = _ := h.1; subst h1; rfl
      | bs i k => have h1 : v = _ := h.1; subst h1; rfl
      | dead => simp [goodC] at hg
    · exact concL_one h.2 hg.2 v hv
  | [], _ :: _, h, _, _, _ => h.elim
  | _ :: _, [], h, _, _, _ => h.elim

theorem store_run {o : Oper} {t : TypeId} {x y : Operand} (ho : o.op = .store t x y) {ad : Addr} (he : a.eval x = .pointer (some ad)) (hsz : (a.eval y).cells.size = sizeTS (tyS P t)) (hb : tyS P t ≠ .bad)
    {w' : World} (hr : (storeCells ad (a.eval y).cells.toList).run P w = .ok () w') : (execOp a.eval o).run P w = .ok .skip w' := by
  simp [execOp, ho, Instr.storeAt, Instr.sureAddr, he, storeVar, tyS_run hb w, hsz, hr]

theorem store_step {o : Oper} {t : TypeId} {x y : Operand} (ho : o.op = .store t x y) (hs : Sim P n m0 w0 β κ f L m a w)
    (h : vcStore P n o.dst t (ev f x) (ev f y) K f L m) (hK : Abs P n m0 w0 β κ a o.dst.toList K Ka) : o.wp P a w Ka Q := by
  have hx := ev_conc hs x
  have hy := ev_conc hs y
  unfold vcStore at h
  split at h
  case h_2 => exact h.elim
  rename_i ys hys
  have hyc := cellsOf_conc hy hys
  have hylen := concL_length hyc
  have fin : ∀ {L' m' w'}, Sim P n m0 w0 β κ f L' m' a w' → (execOp a.eval o).run P w = .ok .skip w' → K (put n f o.dst (.c (.v undef))) L' m' → o.wp P a w Ka Q :=
    fun hs' hr hk => wp_skipped hr (hK _ _ _ _ _ _ _ (hs'.put o.dst (x := .c (.v undef)) rfl) (keep_put a o.dst undef) hk)
  split at h
  · rename_i i off hev
    rw [hev] at hx
    have hx : a.eval x = .pointer (some ⟨β i, off, none⟩) := hx
    split at h
    · rename_i ty cs hl
      obtain ⟨⟨arr, hc, hh⟩, _, _⟩ := hs.boxes i _ hl
      have hh : ConcL β κ cs arr.toList := hh
      have hcl : cs.length = arr.size := by simpa using concL_length hh
      split at h
      · rename_i hcond
        obtain ⟨hg, h1, hb, h2⟩ := hcond
        have hone := concL_one hyc hg
        have hsz : (a.eval y).cells.size = sizeTS (tyS P t) := by rw [← h1, hylen]; simp
        have hst := run_storeCells_at P (β i) off ty (a.eval y).cells.toList 0 arr w hc (by simp at hylen ⊢; omega) (fun v hv => by rw [oneCell_eq]; exact hone v hv)
        refine fin (hs.write hl (bx' := .str ty (splice cs off ys)) rfl hc ?_) (store_run ho hx hsz hb hst) h
        simp only [Nat.add_zero]
        exact splice_conc hh hyc
      · exact h.elim
    · rename_i ty vs cap hl
      obtain ⟨⟨arr, hc, junk, hj, hk1, hk2, hk3⟩, _, _⟩ := hs.boxes i _ hl
      split at h
      · rename_i yv hyv
        obtain ⟨h1, hb, h2, hone, hk⟩ := h
        have hval := concL_of_vals hyv hyc
        have hsz : (a.eval y).cells.size = sizeTS (tyS P t) := by rw [← h1, ← hval]; simp
        have hal : arr.size = vs.length + junk.length := by simpa using congrArg List.length hj
        have hst := run_storeCells_at P (β i) off ty (a.eval y).cells.toList 0 arr w hc (by rw [hval]; omega) (fun v hv => by rw [oneCell_eq]; exact hone v (hval ▸ hv))
        refine fin (hs.write hl (bx' := .arr ty (splice vs off yv) cap) rfl hc ⟨junk, ?_, hk1, hk2, fun s hss => ?_⟩) (store_run ho hx hsz hb hst) hk
        · simp only [Nat.add_zero, hval, hj, splice]
          rw [List.take_append_of_le_length (by omega), List.drop_append_of_le_length (by omega)]
          simp
        · have := hk3 s hss
          simp only [Nat.add_zero, hval, hj, List.size_toArray, List.length_append, List.length_take, List.length_drop]
          omega
      · exact h.elim
    · exact h.elim
  · rename_i ad hev
    rw [hev] at hx
    have hx : a.eval x = .pointer (some ad) := hx
    split at h
    · rename_i yv hyv
      obtain ⟨h1, hb, hsp, hone, hcell, hk⟩ := h
      have hval := concL_of_vals hyv hyc
      have hsz : (a.eval y).cells.size = sizeTS (tyS P t) := by rw [← h1, ← hval]; simp
      have hst := run_storeCells_mem (P := P) (a.eval y).cells.toList ad 0 w hsp (fun v hv => hone v (hval ▸ hv)) (fun j hj => by
        obtain ⟨q1, q2⟩ := hcell j (hval ▸ hj)
        simp only [Nat.zero_add]
        obtain ⟨u, hu⟩ := Option.isSome_iff_exists.1 q1
        refine ⟨by rw [hs.under.cell hu]; rfl, ?_⟩
        have hb := hs.under.blocks _ (vis_of_cell hu)
        rw [World.frozen?_of_block hb]; exact q2)
      have hadd0 : ad.add 0 = ad := by simp [Addr.add]
      rw [hadd0, hval] at hst
      exact fin (Sim.setCells yv ad hs hsp (fun j hj => (hcell j hj).1)) (store_run ho hx hsz hb (hval ▸ hst)) hk
    · exact h.elim
  · exact h.elim

/-! ### Literals -/
theorem fold_splice : ∀ (l : List Value) (k : Nat) (cs : Array Value) (off : Nat), off + k + l.length ≤ cs.size →
    ((l.zipIdx k).foldl (fun cs (p : Value × Nat) => cs.setIfInBounds (off + p.2) p.1) cs).toList = cs.toList.take (off + k) ++ l ++ cs.toList.drop (off + k + l.length)
  | [], k, cs, off, _ => by simp
  | v :: r, k, cs, off, h => by
    simp only [List.zipIdx_cons, List.foldl_cons]
    rw [fold_splice r (k + 1) (cs.setIfInBounds (off + k) v) off (by simp at h ⊢; omega)]
    have := list_seg_step cs.toList (off + k) v r (by simp at h ⊢; omega)
    simp only [Array.toList_setIfInBounds]
    rw [show off + (k + 1) = off + k + 1 by omega, this]
    simp [Nat.add_comm]

theorem fill_conc : ∀ (parts : List (Nat × Operand)) {cs : List CV} {arr : Array Value} {pl : List (Nat × Nat)} {place : Nat → Option (Nat × Nat)} {out : List CV}, (∀ i, place i = pl[i]?) →
    (∀ x, ConcS β κ (ev f x) (a.eval x)) → ConcL β κ cs arr.toList → fillC pl cs (parts.map fun p => (p.1, ev f p.2)) = some out →
    ∃ arr', Instr.fill place arr (parts.map fun p => (p.1, a.eval p.2)) = some arr' ∧ ConcL β κ out arr'.toList
  | [], cs, arr, pl, place, out, _, _, hc, h => by simp only [List.map_nil, fillC, Option.some.injEq] at h; subst h; exact ⟨arr, rfl, hc⟩
  | (i, x) :: r, cs, arr, pl, place, out, hp, hev, hc, h => by
    simp only [List.map_cons, fillC] at h
    split at h
    · rename_i off size ys hpl hys
      split at h
      · rename_i hcond
        have hyc := cellsOf_conc (hev x) hys
        have hylen : ys.length = (a.eval x).cells.size := by simpa using concL_length hyc
        have hcl : cs.length = arr.size := by simpa using concL_length hc
        have hfold : ((a.eval x).cells.zipIdx.foldl (fun cs (p : Value × Nat) => cs.setIfInBounds (off + p.2) p.1) arr).toList = arr.toList.take off ++ (a.eval x).cells.toList ++ arr.toList.drop (off + (a.eval x).cells.toList.length) := by
          have := fold_splice (a.eval x).cells.toList 0 arr off (by simp; omega)
          simp only [Nat.add_zero] at this
          rw [← this]
          rw [← Array.foldl_toList, Array.toList_zipIdx]
        obtain ⟨arr', h1, h2⟩ := fill_conc r (arr := (a.eval x).cells.zipIdx.foldl (fun cs (p : Value × Nat) => cs.setIfInBounds (off + p.2) p.1) arr) hp hev (by rw [hfold]; exact splice_conc hc hyc) h
        refine ⟨arr', ?_, h2⟩
        simp only [List.map_cons, Instr.fill, hp, hpl]
        rw [if_neg (by simp; omega)]
        exact h1
      · cases h
    · cases h
end
end Go.Vc

namespace Go.Vc
open Go Go.RowKit
section
variable {P : Program} {n : Nat} {m0 w0 : World} {β κ : Nat → Nat} {f : Regs} {L : Lst} {m : World} {a : Act} {w : World}
  {K : K0} {Ka : Act → World → Prop} {Q : Exit → Act → World → Prop}

/-! ### A box is shown -/
def ConcSL (β κ : Nat → Nat) : List SV → List Value → Prop
  | [], [] => True
  | x :: xs, y :: ys => ConcS β κ x y ∧ ConcSL β κ xs ys
  | _, _ => False
theorem callFunc_run {g : FuncId} (hc : callable P g = true) (args : Array Value) (w : World) : (callFunc g args).run P w = .ok (.enter g args) w := by
  unfold callable at hc
  cases hf : P.funcs[g]? with
  | none => simp [hf] at hc
  | some fn =>
    simp only [hf, Bool.and_eq_true, Bool.not_eq_true'] at hc
    have hb : fn.body.isNone = false := by cases hb : fn.body <;> simp_all
    have hn : (fn.name == "runtime.NumGoroutine") = false := hc.2
    have hn' : ¬ fn.name = "runtime.NumGoroutine" := by simpa using hn
    have hb' : ¬ fn.body = none := fun e => by simp [e] at hb
    simp [callFunc, hf, hn', hb']

end
end Go.Vc

namespace Go.Vc
open Go Go.RowKit
section
variable {P : Program} {n : Nat} {m0 w0 : World} {β κ : Nat → Nat} {f : Regs} {L : Lst} {m : World} {a : Act} {w : World}
  {K : K0} {Ka : Act → World → Prop} {Q : Exit → Act → World → Prop}

theorem underlying_run {t : TypeId} {d : TypeDesc} (h : P.underlying t = some d) (w : World) : (underlying t).run P w = .ok d w := by simp [underlying, h]

theorem elemS_spec {T e sz bytes : Nat} (h : elemS P T = some (e, sz, bytes)) : P.underlying T = some (.slice e) ∧ ∃ i, P.info? e = some i ∧ i.size = sz ∧ i.bytes = bytes := by
  unfold elemS at h
  split at h
  · rename_i e' hu
    cases hi : P.info? e' with
    | none => simp [hi] at h
    | some i => simp only [hi, Option.map_some, Option.some.injEq, Prod.mk.injEq] at h; obtain ⟨rfl, rfl, rfl⟩ := h; exact ⟨hu, i, hi, rfl, rfl⟩
  · cases h

theorem alloc_step {o : Oper} {t : TypeId} (ho : o.op = .alloc t) (hs : Sim P n m0 w0 β κ f L m a w)
    (h : vcOp P n o K f L m) (hK : Abs P n m0 w0 β κ a o.dst.toList K Ka) : o.wp P a w Ka Q := by
  simp only [vcOp, ho] at h
  split at h
  · rename_i z hz
    obtain ⟨v, hv, hc⟩ := zeroC_run hz w
    have hrun : (execOp a.eval o).run P w = .ok (.value (.pointer (some ⟨w.heap.size, 0, none⟩))) (w.alloc (.cells v.cells t)) := by
      simp [execOp, ho, Instr.alloc, hv, run_alloc_box]
    refine create_step (c := 0) hs hrun (fun d _ => ?_) (fun d _ => ?_) h hK
    · show ConcL _ _ ((z.map CV.v).map (killC d)) v.cells.toList
      rw [hc]
      have : (z.map CV.v).map (killC d) = z.map CV.v := by simp [killC]
      rw [this]; exact concL_vals _ _ _
    · simp [Conc]
  · exact h.elim

theorem box_step {o : Oper} {t : TypeId} {x : Operand} (ho : o.op = .box t x) (hs : Sim P n m0 w0 β κ f L m a w)
    (h : vcOp P n o K f L m) (hK : Abs P n m0 w0 β κ a o.dst.toList K Ka) : o.wp P a w Ka Q := by
  simp only [vcOp, ho] at h
  split at h
  · rename_i cs hcs
    have hrun : (execOp a.eval o).run P w = .ok (.value (.pointer (some ⟨w.heap.size, 0, none⟩))) (w.alloc (.cells (a.eval x).cells t)) := by
      simp [execOp, ho, Instr.box, run_alloc_box]
    refine create_step (c := 0) hs hrun (fun d _ => ?_) (fun d _ => ?_) h hK
    · exact concL_kill (cellsOf_conc (ev_conc hs x) hcs)
    · simp [Conc]
  · exact h.elim

theorem run_mapM_places (fs : List Field) (pl : List (Nat × Nat)) (w : World) (h : fs.mapM (fun f => (P.info? f.type).map fun i => (f.offset, i.size)) = some pl) :
    (fs.mapM (fun f => do pure (f.offset, ← sizeOf f.type) : Field → Sem (Nat × Nat))).run P w = .ok pl w := by
  induction fs generalizing pl with
  | nil => simp at h; subst h; rfl
  | cons x r ih =>
    simp only [List.mapM_cons] at h ⊢
    cases hx : P.info? x.type with
    | none => simp [hx] at h
    | some i =>
      cases hr : r.mapM (fun f => (P.info? f.type).map fun i => (f.offset, i.size)) with
      | none => simp [hx, hr] at h
      | some ys =>
        simp [hx, hr] at h
        subst h
        have := ih ys hr
        simp [sizeOf, typeInfo, hx] at this ⊢
        simp [this]

theorem flat_get (l : List Value) : ∀ (N k : Nat), ((List.replicate N l).flatten)[k]? = if k < N * l.length then l[k % l.length]? else none
  | 0, k => by simp
  | N + 1, k => by
    simp only [List.replicate_succ, List.flatten_cons]
    by_cases hk : k < l.length
    · rw [List.getElem?_append_left hk, Nat.mod_eq_of_lt hk, if_pos]
      rw [Nat.add_mul]; omega
    · rw [List.getElem?_append_right (by omega), flat_get l N (k - l.length)]
      have h1 : (k - l.length) % l.length = k % l.length := (Nat.mod_eq_sub_mod (by omega)).symm
      rw [h1, Nat.add_mul]
      by_cases hk2 : k - l.length < N * l.length
      · rw [if_pos hk2, if_pos (by omega)]
      · rw [if_neg hk2, if_neg (by omega)]
theorem toList_made (z : Array Value) (N : Nat) (hz : 0 < z.size) : ((Array.range (N * z.size)).map (z[· % z.size]!)).toList = (List.replicate N z.toList).flatten := by
  apply List.ext_getElem?
  intro k
  rw [flat_get]
  simp only [Array.length_toList]
  by_cases hk : k < N * z.size
  · have : k % z.size < z.size := Nat.mod_lt _ hz
    simp [hk, this]
  · simp [hk]

theorem zerosOf_spec {e sz N : Nat} {zs : List Value} (h : zerosOf P e sz N = some zs) (w : World) : ∃ zv, (zeroValue e).run P w = .ok zv w ∧ zv.cells.size = sz ∧ zs = (List.replicate N zv.cells.toList).flatten := by
  unfold zerosOf at h
  split at h
  case h_2 => cases h
  rename_i z hz
  split at h
  case isFalse => cases h
  rename_i hl
  simp only [Option.some.injEq] at h
  obtain ⟨zv, hzv, hzc⟩ := zeroC_run hz w
  exact ⟨zv, hzv, by rw [← hl, ← hzc]; simp, by rw [hzc]; exact h.symm⟩

theorem splice_length {α : Type} {cs ys : List α} {off : Nat} (h : off + ys.length ≤ cs.length) : (splice cs off ys).length = cs.length := by
  simp [splice]; omega
theorem fillC_length {pl : List (Nat × Nat)} : ∀ (ps : List (Nat × SV)) {cs out : List CV}, fillC pl cs ps = some out → out.length = cs.length
  | [], cs, out, h => by simp only [fillC, Option.some.injEq] at h; rw [h]
  | (i, s) :: r, cs, out, h => by
    simp only [fillC] at h
    split at h
    · split at h
      · rename_i hc
        rw [fillC_length r h, splice_length (by omega)]
      · cases h
    · cases h
theorem hm63 {len sz : Nat} (h : len * sz ≤ 16777216) (h0 : 0 < sz) : len ≤ maxLen := by
  have := Nat.le_mul_of_pos_right len h0
  simp only [maxLen]; omega

theorem buildSlice_step {o : Oper} {T len : Nat} {parts : Array (Nat × Operand)} (ho : o.op = .buildSlice T len parts) (hs : Sim P n m0 w0 β κ f L m a w)
    (h : vcOp P n o K f L m) (hK : Abs P n m0 w0 β κ a o.dst.toList K Ka) : o.wp P a w Ka Q := by
  simp only [vcOp, ho] at h
  split at h
  case h_2 => exact h.elim
  rename_i e sz by' hel
  split at h
  case h_2 => exact h.elim
  rename_i zs hzs
  split at h
  case h_2 => exact h.elim
  rename_i cs hcs
  split at h
  case h_2 => exact h.elim
  rename_i vs hvs
  obtain ⟨hsz0, hlim, h⟩ := h
  obtain ⟨hu, i, hi, hsz, _⟩ := elemS_spec hel
  obtain ⟨zv, hzv, hzl, hzs'⟩ := zerosOf_spec hzs w
  have hzsl : zs.length = len * sz := by rw [hzs']; simp [hzl]
  have hmade : ((Array.range (len * sz)).map (zv.cells[· % zv.cells.size]!)).toList = zs := by
    rw [hzs', ← toList_made _ _ (by omega), hzl]
  have hzc : ConcL β κ (zs.map .v) ((Array.range (len * sz)).map (zv.cells[· % zv.cells.size]!)).toList := by rw [hmade]; exact concL_vals _ _ _
  obtain ⟨arr, h1, h2⟩ := fill_conc (β := β) (κ := κ) (f := f) (a := a) parts.toList (pl := (List.range len).map fun i => (i * sz, sz))
    (place := fun i => if i < len then some (i * sz, sz) else none) (fun i => by by_cases hi : i < len <;> simp [hi]) (ev_conc hs) hzc hcs
  have h1' : Instr.fill (fun i => some (i * sz, sz)) ((Array.range (len * sz)).map (zv.cells[· % zv.cells.size]!)) (parts.toList.map fun p => (p.1, a.eval p.2)) = some arr := by
    clear h h2 hcs hvs
    generalize (parts.toList.map fun p => (p.1, a.eval p.2)) = ps at h1
    generalize ((Array.range (len * sz)).map (zv.cells[· % zv.cells.size]!)) = base at h1
    induction ps generalizing base with
    | nil => exact h1
    | cons p r ih =>
      obtain ⟨i, v⟩ := p
      simp only [Instr.fill] at h1 ⊢
      by_cases hi : i < len
      · simp only [hi, if_true] at h1
        split at h1
        · cases h1
        · rename_i hn; rw [if_neg hn]; exact ih _ h1
      · simp [hi] at h1
  have harr : arr = vs.toArray := by have := concL_of_vals hvs h2; rw [← this]
  have hpt : (parts.map fun (x : Nat × Operand) => (x.1, a.eval x.2)).toList = parts.toList.map fun p => (p.1, a.eval p.2) := by simp
  have hrun : (execOp a.eval o).run P w = .ok (.value (.slice (some ⟨w.heap.size, 0, none⟩) len len)) (w.alloc (.cells arr e)) := by
    have hsr : (sizeOf e).run P w = .ok sz w := by simp [sizeOf, typeInfo, hi, hsz]
    have hnl : ¬ (len * sz > 16777216) := by omega
    have h224 : (2 : Nat) ^ 24 = 16777216 := by decide
    simp only [execOp, ho, Instr.buildSlice, Sem.run_bind, underlying_run hu, Result.andThen_ok, hsr, h224, if_neg hnl, hpt]
    by_cases h0 : len * sz = 0
    · have hl0 : len = 0 := by
        rcases Nat.mul_eq_zero.1 h0 with q | q <;> omega
      subst hl0
      have hb : (Array.range (0 * sz)).map (zv.cells[· % zv.cells.size]!) = #[] := by simp
      have hb' : (Array.range 0).map ((#[] : Array Value)[· % (#[] : Array Value).size]!) = #[] := by simp
      rw [hb] at h1'
      simp only [h0, if_true, Sem.run_pure, Result.andThen_ok, hb', h1', newRow, Sem.run_bind, run_newObj, World.alloc_eq]
    · simp only [h0, if_false, Sem.run_bind, hzv, Result.andThen_ok, Sem.run_pure, h1', newRow, run_newObj, World.alloc_eq]
  have hcsl : vs.length = len * sz := by
    have h3 := fillC_length _ hcs
    rw [map_of_vals hvs] at h3
    simpa [hzsl] using h3
  refine create_step (c := len) hs hrun (fun d _ => ?_) (fun d _ => ?_) h hK
  · show ∃ junk, _
    refine ⟨[], by simp [harr], by simp, hm63 hlim hsz0, fun s hss => ?_⟩
    have : s = sz := by have := hss; simp only [hi, Option.map_some, Option.some.injEq] at this; omega
    rw [harr, this]; simpa using hcsl
  · simp [Conc]
end
end Go.Vc
