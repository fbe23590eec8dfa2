/-
  Pairs of parentheses in the very world.
  Conditions: none.
-/
import Derived.Test.YtoegnikpokgbfaaGreatDoorETY
import Derived.Test.YtoegnikpokgbfaaGreatDoorETP
import Derived.Shelf.SlSortCmp.Whole1
import Derived.Shelf.SlicesG.Cmp
set_option linter.unusedVariables false
set_option linter.unusedSimpArgs false
set_option linter.unusedSectionVars false
set_option maxRecDepth 8000
namespace Go.Proofs.YtoegnikpokgbfaaGreatDoor
open Go Go.Dv
open Go.Vc (D shrI xorI andI)
open Go.Vc (D shrI xorI andI okV CellF ValsF Cells)
open Go.Cv Go.Cx
theorem cell_block {w : World} {b o : Nat} {v : Value} (h : w.cell? ⟨b, o, none⟩ = some v) : ∃ cs ty lh, w.heap[b]? = some (.cells cs ty lh) ∧ cs[o]? = some v := by
 unfold World.cell? at h
 cases hb : w.heap[b]? with
 | none => simp [hb] at h
 | some ob =>
  cases ob <;> simp [hb] at h
  exact ⟨_, _, _, rfl, by first | exact h | simpa using h⟩
def prow (p : Nat × Nat) : List D := [.sl 2 [.lit (.int .i64 p.1), .lit (.int .i64 p.2)]]
theorem prow_len (p : Nat × Nat) : (prow p).length = 1 := rfl
def tokV (t : Tok) : List Value := [.int .i64 t.kind, .string t.text, .int .i64 t.at_]
theorem tok_vals {w : World} : ∀ {L : List Tok} {vs : List Value} {F : List Nat}, ValsF w (L.flatMap Tok.row) vs F → vs = L.flatMap tokV
 | [], [], _, _ => rfl
 | [], _ :: _, _, h => h.elim
 | ⟨k, x, a⟩ :: L, vs, F, h => by
  have h : ValsF w (.lit (.int .i64 k) :: .lit (.string x) :: .lit (.int .i64 a) :: L.flatMap Tok.row) vs F := h
  obtain ⟨v1, r1, F1, R1, rfl, h1, k1, rfl⟩ := vals_cons h
  obtain ⟨v2, r2, F2, R2, rfl, h2, k2, rfl⟩ := vals_cons k1
  obtain ⟨v3, r3, F3, R3, rfl, h3, k3, rfl⟩ := vals_cons k2
  obtain ⟨rfl, rfl, _⟩ := h1
  obtain ⟨rfl, rfl, _⟩ := h2
  obtain ⟨rfl, rfl, _⟩ := h3
  rw [tok_vals k3]; rfl
theorem tokV_at : ∀ {L : List Tok} {i : Nat} (hi : i < L.length), (L.flatMap tokV)[i * 3]? = some (.int .i64 L[i].kind) ∧ (L.flatMap tokV)[i * 3 + 1]? = some (.string L[i].text) ∧ (L.flatMap tokV)[i * 3 + 2]? = some (.int .i64 L[i].at_)
 | [], _, h => absurd h (Nat.not_lt_zero _)
 | t :: L, 0, _ => ⟨rfl, rfl, rfl⟩
 | t :: L, i + 1, h => by
  have ih := tokV_at (L := L) (i := i) (by simpa using h)
  have e : (t :: L).flatMap tokV = tokV t ++ L.flatMap tokV := rfl
  rw [e]
  refine ⟨?_, ?_, ?_⟩
  ·rw [List.getElem?_append_right (by show 3 ≤ _; omega)]; simpa [tokV, show (i + 1) * 3 - 3 = i * 3 by omega] using ih.1
  ·rw [List.getElem?_append_right (by show 3 ≤ _; omega)]; simpa [tokV, show (i + 1) * 3 + 1 - 3 = i * 3 + 1 by omega] using ih.2.1
  ·rw [List.getElem?_append_right (by show 3 ≤ _; omega)]; simpa [tokV, show (i + 1) * 3 + 2 - 3 = i * 3 + 2 by omega] using ih.2.2
theorem tok_cells {w : World} {L : List Tok} {v : Value} {G : List Nat} (h : CellF w (.sl L.length (L.flatMap Tok.row)) v G) (hne : L ≠ []) :
 ∃ b o cap, v = .slice (some ⟨b, o, none⟩) L.length cap ∧ b < w.heap.size ∧ ∀ i (hi : i < L.length), w.cell? ⟨b, o + i * 3, none⟩ = some (.int .i64 L[i].kind) ∧ w.cell? ⟨b, o + i * 3 + 1, none⟩ = some (.string L[i].text) ∧ w.cell? ⟨b, o + i * 3 + 2, none⟩ = some (.int .i64 L[i].at_) := by
 obtain ⟨a, cap, rfl, _, _, _, ⟨e, _⟩ | ⟨_, b, o, F, rfl, hr, _⟩⟩ := h
 ·have := congrArg List.length e
  rw [flatMap_len Tok.row_len] at this
  exact absurd (List.eq_nil_of_length_eq_zero (by simp only [List.length_nil] at this; omega)) hne
 ·obtain ⟨vs, hc, hv⟩ := hr.vals
  obtain rfl := tok_vals hv
  have hlt : b < w.heap.size := by
   obtain ⟨t, r, rfl⟩ : ∃ t r, L = t :: r := by
    cases L with
    | nil => exact absurd rfl hne
    | cons t r => exact ⟨t, r, rfl⟩
   obtain ⟨cs, ty, lh, hb, _⟩ := cell_block (hc 0 _ rfl)
   exact (Array.getElem?_eq_some_iff.1 hb).1
  refine ⟨b, o, cap, rfl, hlt, fun i hi => ?_⟩
  obtain ⟨h1, h2, h3⟩ := tokV_at hi
  exact ⟨hc _ _ h1, hc _ _ h2, hc _ _ h3⟩
theorem cLoad_go {P : Program} {n : Nat} {d : Option Nat} {t : TypeId} {ad : Addr} {K : K1} {f : Rg} {w : World} {v : Value} (h : w.cell? ad = some v) : cLoad P n d t ad K f w = (Go.Vc.tyS P t = .one ∧ K (put n f d (.c (.v v))) w) := by
 unfold cLoad
 rw [h]
 exact propext ⟨fun ⟨h1, v', h2, h3⟩ => ⟨h1, by injection h2 with h2; rw [h2]; exact h3⟩, fun ⟨h1, h2⟩ => ⟨h1, v, rfl, h2⟩⟩
theorem cell_keep {w w' : World} (g : Gr w w') {b o : Nat} (hb : b < w.heap.size) {x : Value} (h : w.cell? ⟨b, o, none⟩ = some x) : w'.cell? ⟨b, o, none⟩ = some x := by
 unfold World.cell? at h ⊢
 rw [g.keep b hb]; exact h
def pR0 : Go.Code := Go.Code.region 0 #[{ dst := Option.some 2, op := Go.Op.assign (Go.Operand.const (Go.Value.slice Option.none 0 0)), type := 33, pos := "l14_pairs.go:9", after := #[], guard := Option.none }] Bool.false
def pR1 : Go.Code := Go.Code.region 1 #[{ dst := Option.some 8, op := Go.Op.buildSlice 33 0 #[], type := 33, pos := "l14_pairs.go:10", after := #[], guard := Option.none }, { dst := Option.some 3, op := Go.Op.assign (Go.Operand.tmp 8), type := 33, pos := "l14_pairs.go:10", after := #[{ on := 0, ground := Go.Ground.data }, { on := 0, ground := Go.Ground.phase }], guard := Option.none }] Bool.false
def pR2 : Go.Code := Go.Code.region 2 #[{ dst := Option.some 9, op := Go.Op.buildSlice 45 0 #[], type := 45, pos := "l14_pairs.go:11", after := #[], guard := Option.none }, { dst := Option.some 4, op := Go.Op.assign (Go.Operand.tmp 9), type := 45, pos := "l14_pairs.go:11", after := #[{ on := 0, ground := Go.Ground.data }, { on := 0, ground := Go.Ground.phase }], guard := Option.none }] Bool.false
def pR3 : Go.Code := Go.Code.region 3 #[{ dst := Option.some 10, op := Go.Op.move (Go.Operand.tmp 0), type := 31, pos := "l14_pairs.go:12", after := #[], guard := Option.none }, { dst := Option.some 11, op := Go.Op.call { callee := Go.Callee.builtin Go.Builtin.len, args := #[Go.Operand.tmp 10], argTypes := #[31] }, type := 3, pos := "l14_pairs.go:12", after := #[{ on := 0, ground := Go.Ground.data }], guard := Option.none }, { dst := Option.some 12, op := Go.Op.move (Go.Operand.const (Go.Value.int Go.IntKind.i64 0)), type := 3, pos := "l14_pairs.go:12", after := #[], guard := Option.none }] Bool.false
def pR4 : Go.Code := Go.Code.region 4 #[{ dst := Option.some 13, op := Go.Op.binOp Go.BinOp.lss 3 (Go.Operand.tmp 12) (Go.Operand.tmp 11) 3, type := 0, pos := "l14_pairs.go:12", after := #[], guard := Option.none }] Bool.false
def pR5 : Go.Code := Go.Code.region 5 #[{ dst := Option.some 14, op := Go.Op.move (Go.Operand.tmp 12), type := 3, pos := "l14_pairs.go:12", after := #[], guard := Option.none }, { dst := Option.some 15, op := Go.Op.indexAddr 31 (Go.Operand.tmp 10) (Go.Operand.tmp 12), type := 0, pos := "l14_pairs.go:12", after := #[], guard := Option.none }, { dst := Option.some 16, op := Go.Op.load 61 (Go.Operand.tmp 15), type := 61, pos := "l14_pairs.go:12", after := #[{ on := 1, ground := Go.Ground.data }], guard := Option.none }, { dst := Option.some 6, op := Go.Op.alloc 61, type := 0, pos := "l14_pairs.go:12", after := #[], guard := Option.none }, { dst := Option.some 5, op := Go.Op.assign (Go.Operand.tmp 14), type := 3, pos := "l14_pairs.go:12", after := #[{ on := 0, ground := Go.Ground.data }, { on := 0, ground := Go.Ground.phase }, { on := 1, ground := Go.Ground.phase }, { on := 2, ground := Go.Ground.phase }, { on := 3, ground := Go.Ground.phase }], guard := Option.none }, { dst := Option.none, op := Go.Op.store 61 (Go.Operand.tmp 6) (Go.Operand.tmp 16), type := 0, pos := "l14_pairs.go:12", after := #[{ on := 3, ground := Go.Ground.data }, { on := 2, ground := Go.Ground.data }, { on := 4, ground := Go.Ground.chain }, { on := 0, ground := Go.Ground.phase }, { on := 1, ground := Go.Ground.phase }, { on := 2, ground := Go.Ground.phase }, { on := 3, ground := Go.Ground.phase }, { on := 4, ground := Go.Ground.phase }], guard := Option.none }] Bool.false
def pR6 : Go.Code := Go.Code.region 6 #[{ dst := Option.some 17, op := Go.Op.fieldAddr 61 (Go.Operand.tmp 6) 0, type := 0, pos := "l14_pairs.go:13", after := #[], guard := Option.none }, { dst := Option.some 18, op := Go.Op.load 3 (Go.Operand.tmp 17), type := 3, pos := "l14_pairs.go:13", after := #[{ on := 0, ground := Go.Ground.data }], guard := Option.none }, { dst := Option.some 19, op := Go.Op.binOp Go.BinOp.neq 3 (Go.Operand.tmp 18) (Go.Operand.const (Go.Value.int Go.IntKind.i64 5)) 3, type := 4, pos := "l14_pairs.go:13", after := #[{ on := 1, ground := Go.Ground.data }], guard := Option.none }] Bool.false
def pR7 : Go.Code := Go.Code.region 7 #[{ dst := Option.some 20, op := Go.Op.fieldAddr 61 (Go.Operand.tmp 6) 1, type := 0, pos := "l14_pairs.go:16", after := #[], guard := Option.none }, { dst := Option.some 21, op := Go.Op.load 9 (Go.Operand.tmp 20), type := 9, pos := "l14_pairs.go:16", after := #[{ on := 0, ground := Go.Ground.data }], guard := Option.none }] Bool.false
def pR8 : Go.Code := Go.Code.region 8 #[{ dst := Option.some 23, op := Go.Op.binOp Go.BinOp.eql 9 (Go.Operand.tmp 21) (Go.Operand.const (Go.Value.string { data := #[40] })) 9, type := 4, pos := "l14_pairs.go:17", after := #[], guard := Option.none }, { dst := Option.some 22, op := Go.Op.assign (Go.Operand.tmp 23), type := 4, pos := "l14_pairs.go:17", after := #[{ on := 0, ground := Go.Ground.data }], guard := Option.none }] Bool.false
def pR9 : Go.Code := Go.Code.region 9 #[{ dst := Option.some 24, op := Go.Op.move (Go.Operand.tmp 4), type := 45, pos := "l14_pairs.go:18", after := #[], guard := Option.none }, { dst := Option.some 25, op := Go.Op.move (Go.Operand.tmp 5), type := 3, pos := "l14_pairs.go:18", after := #[], guard := Option.none }, { dst := Option.some 26, op := Go.Op.buildSlice 45 1 #[(0, Go.Operand.tmp 25)], type := 45, pos := "l14_pairs.go:18", after := #[{ on := 1, ground := Go.Ground.data }], guard := Option.none }, { dst := Option.some 27, op := Go.Op.call { callee := Go.Callee.builtin Go.Builtin.append, args := #[Go.Operand.tmp 24, Go.Operand.tmp 26], argTypes := #[45, 45] }, type := 45, pos := "l14_pairs.go:18", after := #[{ on := 0, ground := Go.Ground.data }, { on := 2, ground := Go.Ground.data }], guard := Option.none }, { dst := Option.some 4, op := Go.Op.assign (Go.Operand.tmp 27), type := 45, pos := "l14_pairs.go:18", after := #[{ on := 3, ground := Go.Ground.data }, { on := 3, ground := Go.Ground.chain }, { on := 0, ground := Go.Ground.phase }, { on := 1, ground := Go.Ground.phase }, { on := 2, ground := Go.Ground.phase }, { on := 3, ground := Go.Ground.phase }], guard := Option.none }] Bool.false
def pR10 : Go.Code := Go.Code.region 10 #[{ dst := Option.some 29, op := Go.Op.binOp Go.BinOp.eql 9 (Go.Operand.tmp 21) (Go.Operand.const (Go.Value.string { data := #[41] })) 9, type := 4, pos := "l14_pairs.go:19", after := #[], guard := Option.none }, { dst := Option.some 28, op := Go.Op.assign (Go.Operand.tmp 29), type := 4, pos := "l14_pairs.go:19", after := #[{ on := 0, ground := Go.Ground.data }], guard := Option.none }] Bool.false
def pR11 : Go.Code := Go.Code.region 11 #[{ dst := Option.some 30, op := Go.Op.move (Go.Operand.tmp 4), type := 45, pos := "l14_pairs.go:20", after := #[], guard := Option.none }, { dst := Option.some 31, op := Go.Op.call { callee := Go.Callee.builtin Go.Builtin.len, args := #[Go.Operand.tmp 30], argTypes := #[45] }, type := 3, pos := "l14_pairs.go:20", after := #[{ on := 0, ground := Go.Ground.data }], guard := Option.none }, { dst := Option.some 32, op := Go.Op.binOp Go.BinOp.eql 3 (Go.Operand.tmp 31) (Go.Operand.const (Go.Value.int Go.IntKind.i64 0)) 3, type := 4, pos := "l14_pairs.go:20", after := #[{ on := 1, ground := Go.Ground.data }], guard := Option.none }] Bool.false
def pR12 : Go.Code := Go.Code.region 12 #[{ dst := Option.some 33, op := Go.Op.move (Go.Operand.tmp 4), type := 45, pos := "l14_pairs.go:23", after := #[], guard := Option.none }, { dst := Option.some 34, op := Go.Op.move (Go.Operand.tmp 4), type := 45, pos := "l14_pairs.go:23", after := #[], guard := Option.none }, { dst := Option.some 35, op := Go.Op.call { callee := Go.Callee.builtin Go.Builtin.len, args := #[Go.Operand.tmp 34], argTypes := #[45] }, type := 3, pos := "l14_pairs.go:23", after := #[{ on := 1, ground := Go.Ground.data }], guard := Option.none }, { dst := Option.some 36, op := Go.Op.binOp Go.BinOp.sub 3 (Go.Operand.tmp 35) (Go.Operand.const (Go.Value.int Go.IntKind.i64 1)) 3, type := 3, pos := "l14_pairs.go:23", after := #[{ on := 2, ground := Go.Ground.data }], guard := Option.none }, { dst := Option.some 37, op := Go.Op.indexAddr 45 (Go.Operand.tmp 33) (Go.Operand.tmp 36), type := 0, pos := "l14_pairs.go:23", after := #[{ on := 0, ground := Go.Ground.data }, { on := 3, ground := Go.Ground.data }], guard := Option.none }, { dst := Option.some 38, op := Go.Op.load 3 (Go.Operand.tmp 37), type := 3, pos := "l14_pairs.go:23", after := #[{ on := 4, ground := Go.Ground.data }], guard := Option.none }, { dst := Option.some 7, op := Go.Op.assign (Go.Operand.tmp 38), type := 3, pos := "l14_pairs.go:23", after := #[{ on := 5, ground := Go.Ground.data }, { on := 0, ground := Go.Ground.phase }, { on := 1, ground := Go.Ground.phase }, { on := 2, ground := Go.Ground.phase }, { on := 3, ground := Go.Ground.phase }, { on := 4, ground := Go.Ground.phase }, { on := 5, ground := Go.Ground.phase }], guard := Option.none }] Bool.false
def pR13 : Go.Code := Go.Code.region 13 #[{ dst := Option.some 39, op := Go.Op.move (Go.Operand.tmp 4), type := 45, pos := "l14_pairs.go:24", after := #[], guard := Option.none }, { dst := Option.some 40, op := Go.Op.move (Go.Operand.tmp 4), type := 45, pos := "l14_pairs.go:24", after := #[], guard := Option.none }, { dst := Option.some 41, op := Go.Op.call { callee := Go.Callee.builtin Go.Builtin.len, args := #[Go.Operand.tmp 40], argTypes := #[45] }, type := 3, pos := "l14_pairs.go:24", after := #[{ on := 1, ground := Go.Ground.data }], guard := Option.none }, { dst := Option.some 42, op := Go.Op.binOp Go.BinOp.sub 3 (Go.Operand.tmp 41) (Go.Operand.const (Go.Value.int Go.IntKind.i64 1)) 3, type := 3, pos := "l14_pairs.go:24", after := #[{ on := 2, ground := Go.Ground.data }], guard := Option.none }, { dst := Option.some 43, op := Go.Op.slice 45 (Go.Operand.tmp 39) Option.none (Option.some (Go.Operand.tmp 42)) Option.none, type := 45, pos := "l14_pairs.go:24", after := #[{ on := 0, ground := Go.Ground.data }, { on := 3, ground := Go.Ground.data }], guard := Option.none }, { dst := Option.some 4, op := Go.Op.assign (Go.Operand.tmp 43), type := 45, pos := "l14_pairs.go:24", after := #[{ on := 4, ground := Go.Ground.data }, { on := 0, ground := Go.Ground.phase }, { on := 1, ground := Go.Ground.phase }, { on := 2, ground := Go.Ground.phase }, { on := 3, ground := Go.Ground.phase }, { on := 4, ground := Go.Ground.phase }], guard := Option.none }] Bool.false
def pR14 : Go.Code := Go.Code.region 14 #[{ dst := Option.some 44, op := Go.Op.move (Go.Operand.tmp 7), type := 3, pos := "l14_pairs.go:25", after := #[], guard := Option.none }, { dst := Option.some 45, op := Go.Op.binOp Go.BinOp.eql 3 (Go.Operand.tmp 44) (Go.Operand.const (Go.Value.int Go.IntKind.i64 0)) 3, type := 4, pos := "l14_pairs.go:25", after := #[{ on := 0, ground := Go.Ground.data }], guard := Option.none }, { dst := Option.some 46, op := Go.Op.move (Go.Operand.tmp 45), type := 4, pos := "l14_pairs.go:25", after := #[{ on := 1, ground := Go.Ground.data }], guard := Option.none }, { dst := Option.some 47, op := Go.Op.move (Go.Operand.tmp 0), type := 31, pos := "l14_pairs.go:25", after := #[{ on := 2, ground := Go.Ground.guard }], guard := Option.some (2, Bool.false) }, { dst := Option.some 48, op := Go.Op.move (Go.Operand.tmp 7), type := 3, pos := "l14_pairs.go:25", after := #[{ on := 2, ground := Go.Ground.guard }], guard := Option.some (2, Bool.false) }, { dst := Option.some 49, op := Go.Op.binOp Go.BinOp.sub 3 (Go.Operand.tmp 48) (Go.Operand.const (Go.Value.int Go.IntKind.i64 1)) 3, type := 3, pos := "l14_pairs.go:25", after := #[{ on := 4, ground := Go.Ground.data }, { on := 2, ground := Go.Ground.guard }], guard := Option.some (2, Bool.false) }, { dst := Option.some 50, op := Go.Op.indexAddr 31 (Go.Operand.tmp 47) (Go.Operand.tmp 49), type := 0, pos := "l14_pairs.go:25", after := #[{ on := 3, ground := Go.Ground.data }, { on := 5, ground := Go.Ground.data }, { on := 2, ground := Go.Ground.guard }], guard := Option.some (2, Bool.false) }, { dst := Option.some 51, op := Go.Op.fieldAddr 61 (Go.Operand.tmp 50) 0, type := 0, pos := "l14_pairs.go:25", after := #[{ on := 6, ground := Go.Ground.data }, { on := 2, ground := Go.Ground.guard }], guard := Option.some (2, Bool.false) }, { dst := Option.some 52, op := Go.Op.load 3 (Go.Operand.tmp 51), type := 3, pos := "l14_pairs.go:25", after := #[{ on := 7, ground := Go.Ground.data }, { on := 2, ground := Go.Ground.guard }], guard := Option.some (2, Bool.false) }, { dst := Option.some 53, op := Go.Op.binOp Go.BinOp.neq 3 (Go.Operand.tmp 52) (Go.Operand.const (Go.Value.int Go.IntKind.i64 1)) 3, type := 4, pos := "l14_pairs.go:25", after := #[{ on := 8, ground := Go.Ground.data }, { on := 2, ground := Go.Ground.guard }], guard := Option.some (2, Bool.false) }, { dst := Option.some 54, op := Go.Op.pick (Go.Operand.tmp 46) (Go.Operand.const (Go.Value.bool Bool.true)) (Go.Operand.tmp 53), type := 4, pos := "l14_pairs.go:25", after := #[{ on := 2, ground := Go.Ground.data }, { on := 9, ground := Go.Ground.data }], guard := Option.none }, { dst := Option.some 55, op := Go.Op.move (Go.Operand.tmp 54), type := 4, pos := "l14_pairs.go:25", after := #[{ on := 10, ground := Go.Ground.data }, { on := 2, ground := Go.Ground.chain }], guard := Option.none }, { dst := Option.some 56, op := Go.Op.move (Go.Operand.tmp 0), type := 31, pos := "l14_pairs.go:25", after := #[{ on := 11, ground := Go.Ground.guard }], guard := Option.some (11, Bool.false) }, { dst := Option.some 57, op := Go.Op.move (Go.Operand.tmp 7), type := 3, pos := "l14_pairs.go:25", after := #[{ on := 11, ground := Go.Ground.guard }], guard := Option.some (11, Bool.false) }, { dst := Option.some 58, op := Go.Op.binOp Go.BinOp.sub 3 (Go.Operand.tmp 57) (Go.Operand.const (Go.Value.int Go.IntKind.i64 1)) 3, type := 3, pos := "l14_pairs.go:25", after := #[{ on := 13, ground := Go.Ground.data }, { on := 11, ground := Go.Ground.guard }], guard := Option.some (11, Bool.false) }, { dst := Option.some 59, op := Go.Op.indexAddr 31 (Go.Operand.tmp 56) (Go.Operand.tmp 58), type := 0, pos := "l14_pairs.go:25", after := #[{ on := 12, ground := Go.Ground.data }, { on := 14, ground := Go.Ground.data }, { on := 11, ground := Go.Ground.guard }], guard := Option.some (11, Bool.false) }, { dst := Option.some 60, op := Go.Op.fieldAddr 61 (Go.Operand.tmp 59) 1, type := 0, pos := "l14_pairs.go:25", after := #[{ on := 15, ground := Go.Ground.data }, { on := 11, ground := Go.Ground.guard }], guard := Option.some (11, Bool.false) }, { dst := Option.some 61, op := Go.Op.load 9 (Go.Operand.tmp 60), type := 9, pos := "l14_pairs.go:25", after := #[{ on := 16, ground := Go.Ground.data }, { on := 11, ground := Go.Ground.guard }], guard := Option.some (11, Bool.false) }, { dst := Option.some 62, op := Go.Op.binOp Go.BinOp.neq 9 (Go.Operand.tmp 61) (Go.Operand.const (Go.Value.string { data := #[73, 78] })) 9, type := 4, pos := "l14_pairs.go:25", after := #[{ on := 17, ground := Go.Ground.data }, { on := 11, ground := Go.Ground.guard }], guard := Option.some (11, Bool.false) }, { dst := Option.some 63, op := Go.Op.move (Go.Operand.tmp 62), type := 4, pos := "l14_pairs.go:25", after := #[{ on := 18, ground := Go.Ground.data }, { on := 11, ground := Go.Ground.chain }, { on := 11, ground := Go.Ground.guard }], guard := Option.some (11, Bool.false) }, { dst := Option.some 64, op := Go.Op.move (Go.Operand.tmp 0), type := 31, pos := "l14_pairs.go:25", after := #[{ on := 19, ground := Go.Ground.guard }], guard := Option.some (19, Bool.true) }, { dst := Option.some 65, op := Go.Op.move (Go.Operand.tmp 7), type := 3, pos := "l14_pairs.go:25", after := #[{ on := 19, ground := Go.Ground.guard }], guard := Option.some (19, Bool.true) }, { dst := Option.some 66, op := Go.Op.binOp Go.BinOp.sub 3 (Go.Operand.tmp 65) (Go.Operand.const (Go.Value.int Go.IntKind.i64 1)) 3, type := 3, pos := "l14_pairs.go:25", after := #[{ on := 21, ground := Go.Ground.data }, { on := 19, ground := Go.Ground.guard }], guard := Option.some (19, Bool.true) }, { dst := Option.some 67, op := Go.Op.indexAddr 31 (Go.Operand.tmp 64) (Go.Operand.tmp 66), type := 0, pos := "l14_pairs.go:25", after := #[{ on := 20, ground := Go.Ground.data }, { on := 22, ground := Go.Ground.data }, { on := 19, ground := Go.Ground.guard }], guard := Option.some (19, Bool.true) }, { dst := Option.some 68, op := Go.Op.fieldAddr 61 (Go.Operand.tmp 67) 1, type := 0, pos := "l14_pairs.go:25", after := #[{ on := 23, ground := Go.Ground.data }, { on := 19, ground := Go.Ground.guard }], guard := Option.some (19, Bool.true) }, { dst := Option.some 69, op := Go.Op.load 9 (Go.Operand.tmp 68), type := 9, pos := "l14_pairs.go:25", after := #[{ on := 24, ground := Go.Ground.data }, { on := 19, ground := Go.Ground.guard }], guard := Option.some (19, Bool.true) }, { dst := Option.some 70, op := Go.Op.binOp Go.BinOp.neq 9 (Go.Operand.tmp 69) (Go.Operand.const (Go.Value.string { data := #[69, 88, 73, 83, 84, 83] })) 9, type := 4, pos := "l14_pairs.go:25", after := #[{ on := 25, ground := Go.Ground.data }, { on := 19, ground := Go.Ground.guard }], guard := Option.some (19, Bool.true) }, { dst := Option.some 71, op := Go.Op.pick (Go.Operand.tmp 63) (Go.Operand.tmp 70) (Go.Operand.const (Go.Value.bool Bool.false)), type := 4, pos := "l14_pairs.go:25", after := #[{ on := 19, ground := Go.Ground.data }, { on := 26, ground := Go.Ground.data }, { on := 11, ground := Go.Ground.guard }], guard := Option.some (11, Bool.false) }, { dst := Option.some 72, op := Go.Op.pick (Go.Operand.tmp 55) (Go.Operand.const (Go.Value.bool Bool.true)) (Go.Operand.tmp 71), type := 4, pos := "l14_pairs.go:25", after := #[{ on := 11, ground := Go.Ground.data }, { on := 27, ground := Go.Ground.data }], guard := Option.none }] Bool.false
def pR15 : Go.Code := Go.Code.region 15 #[{ dst := Option.some 73, op := Go.Op.move (Go.Operand.tmp 3), type := 33, pos := "l14_pairs.go:26", after := #[], guard := Option.none }, { dst := Option.some 74, op := Go.Op.move (Go.Operand.tmp 7), type := 3, pos := "l14_pairs.go:26", after := #[], guard := Option.none }, { dst := Option.some 75, op := Go.Op.move (Go.Operand.tmp 5), type := 3, pos := "l14_pairs.go:26", after := #[], guard := Option.none }, { dst := Option.some 76, op := Go.Op.buildSlice 45 2 #[(0, Go.Operand.tmp 74), (1, Go.Operand.tmp 75)], type := 45, pos := "l14_pairs.go:26", after := #[{ on := 1, ground := Go.Ground.data }, { on := 2, ground := Go.Ground.data }], guard := Option.none }, { dst := Option.some 77, op := Go.Op.buildSlice 33 1 #[(0, Go.Operand.tmp 76)], type := 33, pos := "l14_pairs.go:26", after := #[{ on := 3, ground := Go.Ground.data }], guard := Option.none }, { dst := Option.some 78, op := Go.Op.call { callee := Go.Callee.builtin Go.Builtin.append, args := #[Go.Operand.tmp 73, Go.Operand.tmp 77], argTypes := #[33, 33] }, type := 33, pos := "l14_pairs.go:26", after := #[{ on := 0, ground := Go.Ground.data }, { on := 4, ground := Go.Ground.data }], guard := Option.none }, { dst := Option.some 3, op := Go.Op.assign (Go.Operand.tmp 78), type := 33, pos := "l14_pairs.go:26", after := #[{ on := 5, ground := Go.Ground.data }, { on := 5, ground := Go.Ground.chain }, { on := 0, ground := Go.Ground.phase }, { on := 1, ground := Go.Ground.phase }, { on := 2, ground := Go.Ground.phase }, { on := 3, ground := Go.Ground.phase }, { on := 4, ground := Go.Ground.phase }, { on := 5, ground := Go.Ground.phase }], guard := Option.none }] Bool.false
def pR16 : Go.Code := Go.Code.region 16 #[{ dst := Option.some 79, op := Go.Op.binOp Go.BinOp.add 3 (Go.Operand.tmp 12) (Go.Operand.const (Go.Value.int Go.IntKind.i64 1)) 3, type := 3, pos := "l14_pairs.go:12", after := #[], guard := Option.none }, { dst := Option.some 12, op := Go.Op.move (Go.Operand.tmp 79), type := 3, pos := "l14_pairs.go:12", after := #[{ on := 0, ground := Go.Ground.data }], guard := Option.none }] Bool.false
def pR17 : Go.Code := Go.Code.region 17 #[{ dst := Option.some 80, op := Go.Op.move (Go.Operand.tmp 3), type := 33, pos := "l14_pairs.go:30", after := #[], guard := Option.none }, { dst := Option.some 81, op := Go.Op.call { callee := Go.Callee.value (Go.Operand.func 38), args := #[Go.Operand.tmp 80, Go.Operand.func 39], argTypes := #[33, 64] }, type := 0, pos := "l14_pairs.go:30", after := #[{ on := 0, ground := Go.Ground.data }], guard := Option.none }] Bool.false
def pR18 : Go.Code := Go.Code.region 18 #[{ dst := Option.some 82, op := Go.Op.move (Go.Operand.tmp 3), type := 33, pos := "l14_pairs.go:31", after := #[], guard := Option.none }, { dst := Option.some 2, op := Go.Op.assign (Go.Operand.tmp 82), type := 33, pos := "l14_pairs.go:31", after := #[{ on := 0, ground := Go.Ground.data }, { on := 0, ground := Go.Ground.phase }], guard := Option.none }] Bool.false
def pRB : Go.Code := (pR4.seq ((Go.Code.cond (Go.Operand.tmp 13) Go.Code.skip (Go.Code.exit 0)).seq ((Go.Code.block 1 (pR5.seq ((pR6.seq (Go.Code.cond (Go.Operand.tmp 19) (Go.Code.exit 1) Go.Code.skip)).seq (pR7.seq (Go.Code.block 2 (pR8.seq (Go.Code.cond (Go.Operand.tmp 22) pR9 (pR10.seq (Go.Code.cond (Go.Operand.tmp 28) ((pR11.seq (Go.Code.cond (Go.Operand.tmp 32) (Go.Code.exit 1) Go.Code.skip)).seq (pR12.seq (pR13.seq (pR14.seq (Go.Code.cond (Go.Operand.tmp 72) pR15 Go.Code.skip))))) Go.Code.skip))))))))).seq pR16)))
theorem pR_body : Tryz.f12.body = Option.some (pR0.seq (pR1.seq (pR2.seq ((pR3.seq (Go.Code.block 0 pRB.loop)).seq (pR17.seq (pR18.seq Go.Code.ret)))))) := by kernel_rfl
theorem pr4 {K : KX} {f : Rg} {w : World} {i n : Int} (h12 : f 12 = .c (.v (.int .i64 i))) (h11 : f 11 = .c (.v (.int .i64 n))) (hk : ∀ (f' : Rg) , f' 13 = .c (.v (.bool (decide (i < n)))) → (∀ j, j ∉ [13] → f' j = f j) → K .normal f' w) : xc Tryz.prog 83 pR4 K f w := by
 simp (maxSteps := 10000000) only [tt, Go.Cx.xc, Go.Cx.xl, Go.Cx.xOp, Go.Cv.cg0, Go.Cv.cOp, seval, pR4, h12, h11]
 exact hk _ rfl (fun j hj => by simp only [List.mem_cons, List.not_mem_nil, or_false] at hj; simp only [upd, hj, if_false])
theorem pr5 {K : KX} {f : Rg} {w : World} {b0 o n cap i : Nat} {t : Tok} (h10 : f 10 = .c (.v (.slice (some ⟨b0, o, none⟩) n cap))) (h12 : f 12 = .c (.v (.int .i64 (i : Nat)))) (hi : i < n) (c0 : w.cell? ⟨b0, o + i * 3, none⟩ = some (.int .i64 t.kind)) (c1 : w.cell? ⟨b0, o + i * 3 + 1, none⟩ = some (.string t.text)) (c2 : w.cell? ⟨b0, o + i * 3 + 2, none⟩ = some (.int .i64 t.at_)) (hk : ∀ (f' : Rg) (w' : World) , f' 5 = .c (.v (.int .i64 (i : Nat))) ∧ (∃ b ty, f' 6 = .c (.v (.pointer (some ⟨b, 0, none⟩))) ∧ w'.heap[b]? = some (.cells #[.int .i64 t.kind, .string t.text, .int .i64 t.at_] ty (0, 0)) ∧ w.heap.size ≤ b) ∧ Gr w w' → (∀ j, j ∉ [14, 15, 16, 6, 5] → f' j = f j) → K .normal f' w') : xc Tryz.prog 83 pR5 K f w := by
 simp (maxSteps := 10000000) only [tt, Go.Cx.xc, Go.Cx.xl, Go.Cx.xOp, Go.Cx.xStoreP, Go.Cv.cg0, Go.Cv.cOp, Go.Cv.cLoadA, Go.Cv.cStore, Go.Cv.cAlloc, Go.Vc.oneCell, seval, pR5, h10, h12]
 refine ⟨by omega, by omega, [.int .i64 t.kind, .string t.text, .int .i64 t.at_], rfl, fun j v hj => ?_, fun b w1 hb1 hw1 => ⟨rfl, ?_⟩⟩
 ·match j, hj with
  | 0, hj => cases hj; exact c0
  | 1, hj => cases hj; exact c1
  | 2, hj => cases hj; exact c2
  | j + 3, hj => simp at hj
 ·obtain ⟨hx, g1⟩ := box_new hb1 hw1
  refine ⟨_, _, _, hx, Lh.zero _, by simp, by simp [Value.oneCell'], _, rfl, Stp.go (hk _ _ ⟨rfl, ⟨b, 61, rfl, ?_, by omega⟩, ?_⟩ (fun j hj => by simp only [List.mem_cons, List.not_mem_nil, or_false, not_or] at hj; simp only [upd, hj, if_false]))⟩
  ·exact setRow_heap w1 b _ _ _ _ hx
  ·exact ⟨by simpa using g1.size, fun x hx => (setRow_other w1 b x _ (by omega)).trans (g1.keep x hx), g1.os, g1.tape, g1.output⟩
theorem pr6 {K : KX} {f : Rg} {w : World} {b ty : Nat} {t : Tok} (h6 : f 6 = .c (.v (.pointer (some ⟨b, 0, none⟩)))) (hb : w.heap[b]? = some (.cells #[.int .i64 t.kind, .string t.text, .int .i64 t.at_] ty (0, 0))) (hk : ∀ (f' : Rg) , f' 19 = .c (.v (.bool (!decide (t.kind = 5)))) → (∀ j, j ∉ [17, 18, 19] → f' j = f j) → K .normal f' w) : xc Tryz.prog 83 pR6 K f w := by
 simp (maxSteps := 10000000) only [tt, Go.Cx.xc, Go.Cx.xl, Go.Cx.xOp, Go.Cv.cg0, Go.Cv.cOp, Go.Cv.cLoad, Nat.add_zero, seval, pR6, h6]
 refine ⟨_, box_cell hb (j := 0) rfl, ?_⟩
 simp (maxSteps := 10000000) only [tt, seval]
 exact hk _ rfl (fun j hj => by simp only [List.mem_cons, List.not_mem_nil, or_false, not_or] at hj; simp only [upd, hj, if_false])
theorem pr7 {K : KX} {f : Rg} {w : World} {b ty : Nat} {t : Tok} (h6 : f 6 = .c (.v (.pointer (some ⟨b, 0, none⟩)))) (hb : w.heap[b]? = some (.cells #[.int .i64 t.kind, .string t.text, .int .i64 t.at_] ty (0, 0))) (hk : ∀ (f' : Rg) , f' 21 = .c (.v (.string t.text)) → (∀ j, j ∉ [20, 21] → f' j = f j) → K .normal f' w) : xc Tryz.prog 83 pR7 K f w := by
 simp (maxSteps := 10000000) only [tt, Go.Cx.xc, Go.Cx.xl, Go.Cx.xOp, Go.Cv.cg0, Go.Cv.cOp, Go.Cv.cLoad, seval, pR7, h6]
 refine ⟨_, box_cell hb (j := 1) rfl, ?_⟩
 simp (maxSteps := 10000000) only [seval]
 exact hk _ rfl (fun j hj => by simp only [List.mem_cons, List.not_mem_nil, or_false, not_or] at hj; simp only [upd, hj, if_false])
theorem pr8 {K : KX} {f : Rg} {w : World} {s : ByteArray} (h21 : f 21 = .c (.v (.string s))) (hk : ∀ (f' : Rg) , f' 22 = .c (.v (.bool (decide (s = ⟨#[40]⟩)))) → (∀ j, j ∉ [22, 23] → f' j = f j) → K .normal f' w) : xc Tryz.prog 83 pR8 K f w := by
 simp (maxSteps := 10000000) only [tt, Go.Cx.xc, Go.Cx.xl, Go.Cx.xOp, Go.Cv.cg0, Go.Cv.cOp, seval, pR8, h21]
 exact hk _ rfl (fun j hj => by simp only [List.mem_cons, List.not_mem_nil, or_false, not_or] at hj; simp only [upd, hj, if_false])
theorem pr9 {K : KX} {f : Rg} {w : World} {vs : Value} {xs : List Value} {F : List Nat} {i : Nat} (h4 : f 4 = .c (.v vs)) (h5 : f 5 = .c (.v (.int .i64 (i : Nat)))) (hS : Stk w xs vs F) (hl : xs.length ≤ 2097152) (hk : ∀ (f' : Rg) (w' : World) , (∃ v F', f' 4 = .c (.v v) ∧ Stk w' (xs ++ [.int .i64 (i : Nat)]) v F' ∧ (∀ y, y ∈ F' → y ∈ F ∨ w.heap.size ≤ y)) ∧ ChL F w w' → (∀ j, j ∉ [24, 25, 26, 27, 4] → f' j = f j) → K .normal f' w') : xc Tryz.prog 83 pR9 K f w := by
 obtain ⟨a, cap, rfl, hnc, hcm, hrest⟩ := id hS
 simp (maxSteps := 10000000) only [tt, Go.Cx.xc, Go.Cx.xl, Go.Cx.xOp, Go.Cv.cg0, Go.Cv.cOp, seval, pR9, h4, h5, Go.Cx.xBuildS, Go.Cx.valsV, Go.Cx.cellsL]
 refine ⟨by kernel_rfl, fun v hv => by rw [List.mem_singleton.1 hv]; rfl, fun b w1 hb hw => ?_⟩
 obtain ⟨hx, g1⟩ := box_new hb hw
 refine Stk.push (e := 3) (bytes := 8) (eu := 3) (by kernel_rfl) (by kernel_rfl) (by kernel_rfl) (hS.keep (g1.chl []) (by simp)) (x := .int .i64 (i : Nat)) ⟨rfl, .inr ⟨b, 0, rfl, fun j v hj => ?_⟩⟩ rfl ⟨by simp only [maxLen]; omega, by omega⟩ fun v w2 F' hS2 hF g2 => ?_
 ·exact box_cells (cs := [.int .i64 (i : Nat)]) (r := []) (va := [.int .i64 (i : Nat)]) hx rfl j v hj
 simp (maxSteps := 10000000) only [tt, seval]
 exact hk _ _ ⟨⟨v, F', rfl, hS2, fun y hy => (hF y hy).imp id fun h => Nat.le_trans g1.size h⟩, (g1.chl F).trans g2⟩ (fun j hj => by simp only [List.mem_cons, List.not_mem_nil, or_false, not_or] at hj; simp only [upd, hj, if_false])
theorem pr10 {K : KX} {f : Rg} {w : World} {s : ByteArray} (h21 : f 21 = .c (.v (.string s))) (hk : ∀ (f' : Rg) , f' 28 = .c (.v (.bool (decide (s = ⟨#[41]⟩)))) → (∀ j, j ∉ [28, 29] → f' j = f j) → K .normal f' w) : xc Tryz.prog 83 pR10 K f w := by
 simp (maxSteps := 10000000) only [tt, Go.Cx.xc, Go.Cx.xl, Go.Cx.xOp, Go.Cv.cg0, Go.Cv.cOp, seval, pR10, h21]
 exact hk _ rfl (fun j hj => by simp only [List.mem_cons, List.not_mem_nil, or_false, not_or] at hj; simp only [upd, hj, if_false])
theorem pr11 {K : KX} {f : Rg} {w : World} {a : Option Addr} {n cap : Nat} (h4 : f 4 = .c (.v (.slice a n cap))) (hk : ∀ (f' : Rg) , f' 32 = .c (.v (.bool (decide (n = 0)))) → (∀ j, j ∉ [30, 31, 32] → f' j = f j) → K .normal f' w) : xc Tryz.prog 83 pR11 K f w := by
 simp (maxSteps := 10000000) only [tt, Go.Cx.xc, Go.Cx.xl, Go.Cx.xOp, Go.Cv.cg0, Go.Cv.cOp, seval, pR11, h4]
 have e : decide ((n : Int) = 0) = decide (n = 0) := by congr 1; exact propext (by omega)
 rw [e]
 exact hk _ rfl (fun j hj => by simp only [List.mem_cons, List.not_mem_nil, or_false, not_or] at hj; simp only [upd, hj, if_false])
theorem pr12 {K : KX} {f : Rg} {w : World} {a : Option Addr} {n cap : Nat} {xs : List Value} {x : Value} {F : List Nat} (h4 : f 4 = .c (.v (.slice a (n + 1) cap))) (hS : Stk w (xs ++ [x]) (.slice a (n + 1) cap) F) (hn : n ≤ 2097152) (hk : ∀ (f' : Rg) , f' 7 = .c (.v x) → (∀ j, j ∉ [33, 34, 35, 36, 37, 38, 7] → f' j = f j) → K .normal f' w) : xc Tryz.prog 83 pR12 K f w := by
 have hw : IntKind.i64.wrap (((n + 1 : Nat) : Int) - 1) = (n : Nat) := by rw [wrap_id (n := ((n + 1 : Nat) : Int) - 1) (by omega) (by omega)]; omega
 obtain ⟨b, cap', e, hc⟩ := hS.get (k := xs.length) (by simp)
 injection e with e1 e2 e3
 rw [List.length_append, List.length_singleton] at e2
 obtain rfl : n = xs.length := by omega
 subst e1
 simp (maxSteps := 10000000) only [tt, Go.Cx.xc, Go.Cx.xl, Go.Cx.xOp, Go.Cv.cg0, Go.Cv.cOp, Go.Cv.cLoad, seval, pR12, h4, hw]
 refine ⟨by omega, by omega, x, ?_, ?_⟩
 ·simpa using hc
 exact hk _ rfl (fun j hj => by simp only [List.mem_cons, List.not_mem_nil, or_false, not_or] at hj; simp only [upd, hj, if_false])
theorem pr13 {K : KX} {f : Rg} {w : World} {a : Option Addr} {n cap : Nat} {xs : List Value} {x : Value} {F : List Nat} (h4 : f 4 = .c (.v (.slice a (n + 1) cap))) (hS : Stk w (xs ++ [x]) (.slice a (n + 1) cap) F) (hn : n ≤ 2097152) (hk : ∀ (f' : Rg) , (∃ v, f' 4 = .c (.v v) ∧ Stk w xs v F) → (∀ j, j ∉ [39, 40, 41, 42, 43, 4] → f' j = f j) → K .normal f' w) : xc Tryz.prog 83 pR13 K f w := by
 have hw : IntKind.i64.wrap (((n + 1 : Nat) : Int) - 1) = (n : Nat) := by rw [wrap_id (n := ((n + 1 : Nat) : Int) - 1) (by omega) (by omega)]; omega
 obtain ⟨h1, h2, h3⟩ := hS.pop
 obtain rfl : n = xs.length := by omega
 simp (maxSteps := 10000000) only [tt, Go.Cx.xc, Go.Cx.xl, Go.Cx.xOp, Go.Cv.cg0, Go.Cv.cOp, seval, pR13, h4, hw]
 refine ⟨by omega, by omega, ?_⟩
 exact hk _ ⟨_, rfl, by simpa using h3⟩ (fun j hj => by simp only [List.mem_cons, List.not_mem_nil, or_false, not_or] at hj; simp only [upd, hj, if_false])
set_option maxHeartbeats 4000000 in
theorem pr14 {K : KX} {f : Rg} {w : World} {b0 o cap a : Nat} {L : List Tok} (h0 : f 0 = .c (.v (.slice (some ⟨b0, o, none⟩) L.length cap))) (h7 : f 7 = .c (.v (.int .i64 (a : Nat)))) (ha : a < L.length) (hL : L.length ≤ 1048576) (hc : ∀ i (hi : i < L.length), w.cell? ⟨b0, o + i * 3, none⟩ = some (.int .i64 L[i].kind) ∧ w.cell? ⟨b0, o + i * 3 + 1, none⟩ = some (.string L[i].text) ∧ w.cell? ⟨b0, o + i * 3 + 2, none⟩ = some (.int .i64 L[i].at_)) (hk : ∀ (f' : Rg), f' 72 = .c (.v (.bool (!pAt L a))) → (∀ j, j ∉ [44, 45, 46, 47, 48, 49, 50, 51, 52, 53, 54, 55, 56, 57, 58, 59, 60, 61, 62, 63, 64, 65, 66, 67, 68, 69, 70, 71, 72] → f' j = f j) → K .normal f' w) : xc Tryz.prog 83 pR14 K f w := by
 obtain ⟨e17, e19⟩ : kw 17 = ⟨#[73, 78]⟩ ∧ kw 19 = ⟨#[69, 88, 73, 83, 84, 83]⟩ := by constructor <;> rfl
 by_cases h0a : a = 0
 ·subst h0a
  have hp : pAt L 0 = false := rfl
  rw [hp] at hk
  have h7 : f 7 = .c (.v (.int .i64 0)) := h7
  simp (maxSteps := 10000000) only [tt, Go.Cx.xc, Go.Cx.xl, Go.Cx.xOp, Go.Cv.cg0, Go.Cx.cg_fn, Go.Cx.cg_u, Go.Cx.gv, Go.Cv.cOp, Go.Vc.guardSlot, seval, pR14, h7]
  exact hk _ rfl (fun j hj => by simp only [List.mem_cons, List.not_mem_nil, or_false, not_or] at hj; simp only [upd, hj, if_false])
 have h0b : decide ((a : Int) = 0) = false := decide_eq_false (by omega)
 have hw : IntKind.i64.wrap ((a : Int) - 1) = ((a - 1 : Nat) : Int) := by rw [wrap_id (n := (a : Int) - 1) (by omega) (by omega)]; omega
 obtain ⟨c0, c1, _⟩ := hc (a - 1) (by omega)
 have hp : pAt L a = isIE L[a - 1] := by
  unfold pAt
  rw [if_neg h0a, List.getElem?_eq_getElem (by omega)]
 rw [hp] at hk
 generalize L[a - 1] = t at c0 c1 hk
 unfold isIE at hk
 rw [e17, e19] at hk
 have go : ∀ (x y z : Bool), decide (t.kind = 1) = x → decide (t.text = ⟨#[73, 78]⟩) = y → decide (t.text = ⟨#[69, 88, 73, 83, 84, 83]⟩) = z → xc Tryz.prog 83 pR14 K f w := by
  intro x y z hx hy hz
  rw [hx, hy, hz] at hk
  have cL0 : ∀ d T K f, cLoad Tryz.prog 83 d T ⟨b0, o + (a - 1) * 3, none⟩ K f w = (Go.Vc.tyS Tryz.prog T = .one ∧ K (put 83 f d (.c (.v (.int .i64 t.kind)))) w) := fun _ _ _ _ => cLoad_go c0
  have cL1 : ∀ d T K f, cLoad Tryz.prog 83 d T ⟨b0, o + (a - 1) * 3 + 1, none⟩ K f w = (Go.Vc.tyS Tryz.prog T = .one ∧ K (put 83 f d (.c (.v (.string t.text)))) w) := fun _ _ _ _ => cLoad_go c1
  cases x with
  | false =>
   simp (maxSteps := 10000000) only [tt, Go.Cx.xc, Go.Cx.xl, Go.Cx.xOp, Go.Cv.cg0, Go.Cx.cg_f, Go.Cx.cg_fn, Go.Cx.cg_u, Go.Cx.gv, Go.Cv.cOp, Go.Vc.guardSlot, Nat.add_zero, seval, pR14, h0, h7, h0b, hw, cL0, hx]
   exact ⟨by omega, by omega, hk _ rfl (fun j hj => by simp only [List.mem_cons, List.not_mem_nil, or_false, not_or] at hj; simp only [upd, hj, if_false])⟩
  | true =>
   cases y with
   | true =>
    simp (maxSteps := 10000000) only [tt, Go.Cx.xc, Go.Cx.xl, Go.Cx.xOp, Go.Cv.cg0, Go.Cx.cg_f, Go.Cx.cg_tn, Go.Cx.cg_fn, Go.Cx.cg_u, Go.Cx.gv, Go.Cv.cOp, Go.Vc.guardSlot, Nat.add_zero, seval, pR14, h0, h7, h0b, hw, cL0, cL1, hx, hy]
    exact ⟨by omega, by omega, by omega, by omega, hk _ rfl (fun j hj => by simp only [List.mem_cons, List.not_mem_nil, or_false, not_or] at hj; simp only [upd, hj, if_false])⟩
   | false =>
    simp (maxSteps := 10000000) only [tt, Go.Cx.xc, Go.Cx.xl, Go.Cx.xOp, Go.Cv.cg0, Go.Cx.cg_t, Go.Cx.cg_f, Go.Cx.cg_fn, Go.Cx.cg_u, Go.Cx.gv, Go.Cv.cOp, Go.Vc.guardSlot, Nat.add_zero, seval, pR14, h0, h7, h0b, hw, cL0, cL1, hx, hy, hz]
    exact ⟨by omega, by omega, by omega, by omega, by omega, by omega, hk _ rfl (fun j hj => by simp only [List.mem_cons, List.not_mem_nil, or_false, not_or] at hj; simp only [upd, hj, if_false])⟩
 exact go _ _ _ rfl rfl rfl
theorem pr15 {K : KX} {f : Rg} {w : World} {vo : Value} {ps : List (Nat × Nat)} {F : List Nat} {a i : Nat} (h3 : f 3 = .c (.v vo)) (h7 : f 7 = .c (.v (.int .i64 (a : Nat)))) (h5 : f 5 = .c (.v (.int .i64 (i : Nat)))) (hO : OwnT w [.sl ps.length (ps.flatMap prow)] [vo] F) (hl : ps.length ≤ 2097152) (hk : ∀ (f' : Rg) (w' : World) , (∃ v F', f' 3 = .c (.v v) ∧ OwnT w' [.sl (ps ++ [(a, i)]).length ((ps ++ [(a, i)]).flatMap prow)] [v] F' ∧ (∀ y, y ∈ F' → y ∈ F ∨ w.heap.size ≤ y)) ∧ ChL F w w' → (∀ j, j ∉ [73, 74, 75, 76, 77, 78, 3] → f' j = f j) → K .normal f' w') : xc Tryz.prog 83 pR15 K f w := by
 obtain ⟨v', e', hcell, hwh⟩ := hO.one
 obtain rfl : vo = v' := by simpa using e'
 obtain ⟨ad, cap, rfl, hnc, hcm, hrest⟩ := hcell
 simp (maxSteps := 10000000) only [tt, Go.Cx.xc, Go.Cx.xl, Go.Cx.xOp, Go.Cv.cg0, Go.Cv.cOp, seval, pR15, h3, h7, h5, Go.Cx.xBuildS, Go.Cx.valsV, Go.Cx.cellsL]
 refine ⟨by kernel_rfl, fun v hv => ?_, fun b w1 hb hw => ⟨by kernel_rfl, fun v hv => by rw [List.mem_singleton.1 hv]; rfl, fun b2 w2 hb2 hw2 => ?_⟩⟩
 ·rcases List.mem_cons.1 hv with rfl | hv
  ·rfl
  ·rw [List.mem_singleton.1 hv]; rfl
 obtain ⟨hx, g1⟩ := box_new hb hw
 obtain ⟨hx2, g2⟩ := box_new hb2 hw2
 have hb1 : ∀ x, x ∈ F → x ≠ b := fun x hx e => by
  have := Go.Cv.vis_lt (hO.own.vis x hx)
  omega
 have hI : OwnT w1 [.lit (.int .i64 (a : Nat)), .lit (.int .i64 (i : Nat))] [.int .i64 (a : Nat), .int .i64 (i : Nat)] [] :=
  ⟨vals_cons_mk (F := []) (R := []) (lit_cell trivial) (vals_cons_mk (F := []) (R := []) (lit_cell trivial) vals_nil_mk), List.nodup_nil, OwnL.nil _, ⟨trivial, trivial, trivial⟩⟩
 have hP : OwnT w1 (prow (a, i)) [.slice (some ⟨b, 0, none⟩) 2 2] [b] :=
  hI.outof (sz := 1) (by simp) (box_cells (cs := [.int .i64 (a : Nat), .int .i64 (i : Nat)]) (r := []) hx rfl) hx (Lh.zero _) (Nat.le_refl _) (by simp [maxLen]) rfl (Nat.le_refl _) (by simp)
 have hP2 := hP.keep (g2.chl []) (by simp)
 have hO2 := (hO.keep (g1.chl []) (by simp)).keep (g2.chl []) (by simp)
 refine app_go (e := 45) (sz := 1) (bytes := 24) (eu := 45) (by kernel_rfl) (by kernel_rfl) (by kernel_rfl) (by decide) hO2 (flatMap_len prow_len ps) hP2 (prow_len _) (fun x hx e => hb1 x hx (by simpa using e)) ⟨rfl, .inr ⟨b2, 0, rfl, fun j v hj => box_cells (cs := [.slice (some ⟨b, 0, none⟩) 2 2]) (r := []) (va := [.slice (some ⟨b, 0, none⟩) 2 2]) hx2 rfl j v hj⟩⟩ (fun u hu => by rw [List.mem_singleton.1 hu]; rfl) ⟨by simp only [maxLen]; omega, by omega⟩ fun v w3 F' hO3 hF g3 => ?_
 simp (maxSteps := 10000000) only [tt, seval]
 have e1 : (ps ++ [(a, i)]).length = ps.length + 1 := by simp
 have e2 : (ps ++ [(a, i)]).flatMap prow = ps.flatMap prow ++ prow (a, i) := by simp
 refine hk _ _ ⟨⟨v, F', rfl, by rw [e1, e2]; exact hO3, fun y hy => ?_⟩, ((g1.trans g2).chl F).trans g3⟩ (fun j hj => by simp only [List.mem_cons, List.not_mem_nil, or_false, not_or] at hj; simp only [upd, hj, if_false])
 rcases hF y hy with h | h | h
 ·exact .inl h
 ·rw [List.mem_singleton.1 h]; exact .inr (by omega)
 ·exact .inr (Nat.le_trans (g1.trans g2).size h)
theorem pr16 {K : KX} {f : Rg} {w : World} {i : Nat} (h12 : f 12 = .c (.v (.int .i64 (i : Nat)))) (hi : i ≤ 2097152) (hk : ∀ (f' : Rg) , f' 12 = .c (.v (.int .i64 (i + 1 : Nat))) → (∀ j, j ∉ [79, 12] → f' j = f j) → K .normal f' w) : xc Tryz.prog 83 pR16 K f w := by
 have hw : IntKind.i64.wrap ((i : Int) + 1) = ((i + 1 : Nat) : Int) := by rw [wrS i (by omega)]; omega
 simp (maxSteps := 10000000) only [tt, Go.Cx.xc, Go.Cx.xl, Go.Cx.xOp, Go.Cv.cg0, Go.Cv.cOp, seval, pR16, h12, hw]
 exact hk _ rfl (fun j hj => by simp only [List.mem_cons, List.not_mem_nil, or_false, not_or] at hj; simp only [upd, hj, if_false])
def PrI (w : World) (L : List Tok) (v : Value) (f : Rg) (w' : World) : Prop :=
 ∃ (i : Nat) (os : List Nat) (ps : List (Nat × Nat)) (vo vs : Value) (Fo Fs : List Nat), f 0 = .c (.v v) ∧ f 3 = .c (.v vo) ∧ f 4 = .c (.v vs) ∧ f 10 = .c (.v v) ∧ f 11 = .c (.v (.int .i64 L.length)) ∧ f 12 = .c (.v (.int .i64 (i : Nat))) ∧ i ≤ L.length ∧ StAt L i os ps ∧ ps.length ≤ i ∧ os.length ≤ i ∧
  OwnT w' [.sl ps.length (ps.flatMap prow)] [vo] Fo ∧ Stk w' (os.map fun a : Nat => .int .i64 a) vs Fs ∧ (∀ x, x ∈ Fo → x ∉ Fs) ∧ (∀ x, x ∈ Fo → w.heap.size ≤ x) ∧ (∀ x, x ∈ Fs → w.heap.size ≤ x) ∧ Gr w w' ∧ (ps = [] → ∃ b, vo = .slice (some ⟨b, 0, none⟩) 0 0 ∧ b < w'.heap.size)
theorem PairsOf_round {w : World} {L : List Tok} {v : Value} {G : List Nat} (hL : L.length ≤ 1048576) (h : CellF w (.sl L.length (L.flatMap Tok.row)) v G) (K : KX) (g : Rg) (w3 : World) (hI : PrI w L v g w3)
 (hK : ∀ f w', (∃ os ps vo Fo, f 3 = .c (.v vo) ∧ StAt L L.length os ps ∧ ps.length ≤ L.length ∧ OwnT w' [.sl ps.length (ps.flatMap prow)] [vo] Fo ∧ (∀ x, x ∈ Fo → w.heap.size ≤ x) ∧ Gr w w' ∧ (ps = [] → ∃ b, vo = .slice (some ⟨b, 0, none⟩) 0 0 ∧ b < w'.heap.size)) → K (.exit 0) f w')
 (hN : ∀ f w', PrI w L v f w' → (L.length - ixS (f 12)).toNat < (L.length - ixS (g 12)).toNat → K .normal f w') : xc Tryz.prog 83 pRB K g w3 := by
 obtain ⟨i, os, ps, vo, vs, Fo, Fs, q0, q3, q4, q10, q11, q12, hi, hst, hpi, hoi, hO, hS, hd, hoN, hsN, gr, hE⟩ := hI
 have q12g := q12
 unfold pRB
 refine x_seq (pr4 q12 q11 fun f1 h13 k1 => sq_n (x_seq ?_))
 have q0 := (k1 0 (by decide)).trans q0
 have q3 := (k1 3 (by decide)).trans q3
 have q4 := (k1 4 (by decide)).trans q4
 have q10 := (k1 10 (by decide)).trans q10
 have q11 := (k1 11 (by decide)).trans q11
 have q12 := (k1 12 (by decide)).trans q12
 refine x_cond h13 (fun hlt => x_skip (sq_n ?_)) (fun hge => x_exit (sq_o ?_))
 case refine_2 =>
  obtain rfl : i = L.length := by have := of_decide_eq_false hge; omega
  exact hK f1 w3 ⟨os, ps, vo, Fo, q3, hst, hpi, hO, hoN, gr, hE⟩
 have hlt : i < L.length := by have := of_decide_eq_true hlt; omega
 have hne : L ≠ [] := fun e => by rw [e] at hlt; exact Nat.not_lt_zero _ hlt
 obtain ⟨b0, o, cap, rfl, hb0, hcs⟩ := tok_cells h hne
 have hcw : ∀ {w'}, Gr w w' → ∀ i (hi : i < L.length), w'.cell? ⟨b0, o + i * 3, none⟩ = some (.int .i64 L[i].kind) ∧ w'.cell? ⟨b0, o + i * 3 + 1, none⟩ = some (.string L[i].text) ∧ w'.cell? ⟨b0, o + i * 3 + 2, none⟩ = some (.int .i64 L[i].at_) := fun g i hi => ⟨cell_keep g hb0 (hcs i hi).1, cell_keep g hb0 (hcs i hi).2.1, cell_keep g hb0 (hcs i hi).2.2⟩
 have fin : ∀ (f : Rg) (w' : World) (os : List Nat) (ps : List (Nat × Nat)) (vo vs : Value) (Fo Fs : List Nat), f 0 = .c (.v (.slice (some ⟨b0, o, none⟩) L.length cap)) → f 3 = .c (.v vo) → f 4 = .c (.v vs) → f 10 = .c (.v (.slice (some ⟨b0, o, none⟩) L.length cap)) → f 11 = .c (.v (.int .i64 L.length)) → f 12 = .c (.v (.int .i64 (i : Nat))) → StAt L (i + 1) os ps → ps.length ≤ i + 1 → os.length ≤ i + 1 →
  OwnT w' [.sl ps.length (ps.flatMap prow)] [vo] Fo → Stk w' (os.map fun a : Nat => .int .i64 a) vs Fs → (∀ x, x ∈ Fo → x ∉ Fs) → (∀ x, x ∈ Fo → w.heap.size ≤ x) → (∀ x, x ∈ Fs → w.heap.size ≤ x) → Gr w w' → (ps = [] → ∃ b, vo = .slice (some ⟨b, 0, none⟩) 0 0 ∧ b < w'.heap.size) → xc Tryz.prog 83 pR16 K f w' := by
  intro f w' os ps vo vs Fo Fs q0 q3 q4 q10 q11 q12 hst h1 h2 hO hS hd hoN hsN gr hE
  refine pr16 q12 (by omega) fun f' p12 k => ?_
  have q0 := (k 0 (by decide)).trans q0
  have q3 := (k 3 (by decide)).trans q3
  have q4 := (k 4 (by decide)).trans q4
  have q10 := (k 10 (by decide)).trans q10
  have q11 := (k 11 (by decide)).trans q11
  refine hN f' w' ⟨i + 1, os, ps, vo, vs, Fo, Fs, q0, q3, q4, q10, q11, p12, hlt, hst, h1, h2, hO, hS, hd, hoN, hsN, gr, hE⟩ ?_
  rw [p12, q12g]
  show ((L.length : Int) - ((i + 1 : Nat) : Int)).toNat < ((L.length : Int) - (i : Int)).toNat
  omega
 obtain ⟨c0, c1, c2⟩ := hcw gr i hlt
 refine x_seq (x_block (x_seq (pr5 q10 q12 hlt c0 c1 c2 fun f2 w4 ⟨q5, ⟨b, ty, q6, hb, hbs⟩, g4⟩ k2 => sq_n (x_seq (x_seq ?_)))))
 have q0 := (k2 0 (by decide)).trans q0
 have q3 := (k2 3 (by decide)).trans q3
 have q4 := (k2 4 (by decide)).trans q4
 have q10 := (k2 10 (by decide)).trans q10
 have q11 := (k2 11 (by decide)).trans q11
 have q12 := (k2 12 (by decide)).trans q12
 have gr4 := gr.trans g4
 have hE4 : ps = [] → ∃ b, vo = .slice (some ⟨b, 0, none⟩) 0 0 ∧ b < w4.heap.size := fun e => (hE e).imp fun _ h => ⟨h.1, Nat.lt_of_lt_of_le h.2 g4.size⟩
 have hO4 := hO.keep (g4.chl []) (by simp)
 have hS4 := hS.keep (g4.chl []) (by simp)
 refine pr6 q6 hb fun f3 h19 k3 => sq_n ?_
 have q0 := (k3 0 (by decide)).trans q0
 have q3 := (k3 3 (by decide)).trans q3
 have q4 := (k3 4 (by decide)).trans q4
 have q10 := (k3 10 (by decide)).trans q10
 have q11 := (k3 11 (by decide)).trans q11
 have q12 := (k3 12 (by decide)).trans q12
 have q5 := (k3 5 (by decide)).trans q5
 have q6 := (k3 6 (by decide)).trans q6
 have hpl : ps.length ≤ i + 1 := by omega
 have hol : os.length ≤ i + 1 := by omega
 refine x_cond h19 (fun hk5 => x_exit (sq_o (bk_e (sq_n ?_)))) (fun hk5 => x_skip (sq_n (x_seq ?_)))
 ·have hk5 : ¬ L[i].kind = 5 := by simpa using hk5
  exact fin f3 w4 os ps vo vs Fo Fs q0 q3 q4 q10 q11 q12 (hst.other hlt (by simp [isLP, hk5]) (by simp [isRP, hk5])) hpl hol hO4 hS4 hd hoN hsN gr4 hE4
 have hk5 : L[i].kind = 5 := by simpa using hk5
 refine pr7 q6 hb fun f4 q21 k4 => sq_n (x_block (x_seq ?_))
 have q0 := (k4 0 (by decide)).trans q0
 have q3 := (k4 3 (by decide)).trans q3
 have q4 := (k4 4 (by decide)).trans q4
 have q10 := (k4 10 (by decide)).trans q10
 have q11 := (k4 11 (by decide)).trans q11
 have q12 := (k4 12 (by decide)).trans q12
 have q5 := (k4 5 (by decide)).trans q5
 refine pr8 q21 fun f5 h22 k5 => sq_n ?_
 have q0 := (k5 0 (by decide)).trans q0
 have q3 := (k5 3 (by decide)).trans q3
 have q4 := (k5 4 (by decide)).trans q4
 have q10 := (k5 10 (by decide)).trans q10
 have q11 := (k5 11 (by decide)).trans q11
 have q12 := (k5 12 (by decide)).trans q12
 have q5 := (k5 5 (by decide)).trans q5
 have q21 := (k5 21 (by decide)).trans q21
 refine x_cond h22 (fun hlp => ?_) (fun hlp => x_seq ?_)
 ·have hlp : isLP L[i] = true := by simp only [isLP, hk5, hlp]; rfl
  refine pr9 q4 q5 hS4 (by rw [List.length_map]; omega) fun f6 w6 ⟨⟨v6, F6, p4, hS6, hF6⟩, g6⟩ k6 => bk_n (bk_n (sq_n ?_))
  have q0 := (k6 0 (by decide)).trans q0
  have q3 := (k6 3 (by decide)).trans q3
  have q10 := (k6 10 (by decide)).trans q10
  have q11 := (k6 11 (by decide)).trans q11
  have q12 := (k6 12 (by decide)).trans q12
  refine fin f6 w6 (os ++ [i]) ps vo v6 Fo F6 q0 q3 p4 q10 q11 q12 (hst.opened hlt hlp) hpl (by simp; omega) (hO4.keep g6 hd) (by simpa using hS6) (fun x hx hy => ?_) hoN (fun x hx => ?_) (gr4.chl_trans g6 hsN) (fun e => (hE4 e).imp fun _ h => ⟨h.1, Nat.lt_of_lt_of_le h.2 g6.size⟩)
  ·rcases hF6 x hy with e | e
   ·exact hd x hx e
   ·have := Go.Cv.vis_lt (hO4.own.vis x hx); omega
  ·rcases hF6 x hx with e | e
   ·exact hsN x e
   ·exact Nat.le_trans gr4.size e
 have hlp : isLP L[i] = false := by simp only [isLP, hk5, hlp]; rfl
 refine pr10 q21 fun f6 h28 k6 => sq_n ?_
 have q0 := (k6 0 (by decide)).trans q0
 have q3 := (k6 3 (by decide)).trans q3
 have q4 := (k6 4 (by decide)).trans q4
 have q10 := (k6 10 (by decide)).trans q10
 have q11 := (k6 11 (by decide)).trans q11
 have q12 := (k6 12 (by decide)).trans q12
 have q5 := (k6 5 (by decide)).trans q5
 refine x_cond h28 (fun hrp => x_seq (x_seq ?_)) (fun hrp => x_skip (bk_n (bk_n (sq_n ?_))))
 case refine_2 =>
  exact fin f6 w4 os ps vo vs Fo Fs q0 q3 q4 q10 q11 q12 (hst.other hlt hlp (by simp only [isRP, hk5, hrp]; rfl)) hpl hol hO4 hS4 hd hoN hsN gr4 hE4
 have hrp : isRP L[i] = true := by simp only [isRP, hk5, hrp]; rfl
 obtain ⟨va, vcap, rfl⟩ : ∃ a cap, vs = .slice a os.length cap := by
  obtain ⟨a, cap, e, _⟩ := hS4
  rw [List.length_map] at e
  exact ⟨a, cap, e⟩
 refine pr11 q4 fun f7 h32 k7 => sq_n ?_
 have q0 := (k7 0 (by decide)).trans q0
 have q3 := (k7 3 (by decide)).trans q3
 have q4 := (k7 4 (by decide)).trans q4
 have q10 := (k7 10 (by decide)).trans q10
 have q11 := (k7 11 (by decide)).trans q11
 have q12 := (k7 12 (by decide)).trans q12
 have q5 := (k7 5 (by decide)).trans q5
 refine x_cond h32 (fun hz => x_exit (sq_o (bk_o (by decide) (bk_e (sq_n ?_))))) (fun hz => x_skip (sq_n (x_seq ?_)))
 ·obtain rfl := List.eq_nil_of_length_eq_zero (of_decide_eq_true hz)
  exact fin f7 w4 [] ps vo _ Fo Fs q0 q3 q4 q10 q11 q12 (hst.none hlt hlp) hpl (by simp) hO4 hS4 hd hoN hsN gr4 hE4
 have hz := of_decide_eq_false hz
 obtain ⟨os, a, rfl⟩ : ∃ r a, os = r ++ [a] := by
  rcases List.eq_nil_or_concat os with e | ⟨r, a, e⟩
  ·rw [e] at hz; exact absurd rfl hz
  ·exact ⟨r, a, by rw [e, List.concat_eq_append]⟩
 have el : (os ++ [a]).length = os.length + 1 := by simp
 rw [el] at q4 hS4 hol
 rw [List.map_append, List.map_singleton] at hS4
 obtain ⟨hai, hst2⟩ := hst.shut hlt hlp hrp
 refine pr12 q4 hS4 (by omega) fun f8 q7 k8 => sq_n (x_seq ?_)
 have q0 := (k8 0 (by decide)).trans q0
 have q3 := (k8 3 (by decide)).trans q3
 have q4 := (k8 4 (by decide)).trans q4
 have q10 := (k8 10 (by decide)).trans q10
 have q11 := (k8 11 (by decide)).trans q11
 have q12 := (k8 12 (by decide)).trans q12
 have q5 := (k8 5 (by decide)).trans q5
 refine pr13 q4 hS4 (by omega) fun f9 ⟨v9, p4, hS9⟩ k9 => sq_n (x_seq ?_)
 have q0 := (k9 0 (by decide)).trans q0
 have q3 := (k9 3 (by decide)).trans q3
 have q10 := (k9 10 (by decide)).trans q10
 have q11 := (k9 11 (by decide)).trans q11
 have q12 := (k9 12 (by decide)).trans q12
 have q5 := (k9 5 (by decide)).trans q5
 have q7 := (k9 7 (by decide)).trans q7
 refine pr14 q0 q7 (by omega) hL (hcw gr4) fun f10 h72 k10 => sq_n ?_
 have q4 := p4
 have q0 := (k10 0 (by decide)).trans q0
 have q3 := (k10 3 (by decide)).trans q3
 have q4 := (k10 4 (by decide)).trans q4
 have q10 := (k10 10 (by decide)).trans q10
 have q11 := (k10 11 (by decide)).trans q11
 have q12 := (k10 12 (by decide)).trans q12
 have q5 := (k10 5 (by decide)).trans q5
 have q7 := (k10 7 (by decide)).trans q7
 refine x_cond h72 (fun hp => ?_) (fun hp => x_skip (bk_n (bk_n (sq_n ?_))))
 ·have hp : ¬ pAt L a = true := by simpa using hp
  rw [if_neg hp] at hst2
  refine pr15 q3 q7 q5 hO4 (by omega) fun f11 w11 ⟨⟨v11, F11, p3, hO11, hF11⟩, g11⟩ k11 => bk_n (bk_n (sq_n ?_))
  have q0 := (k11 0 (by decide)).trans q0
  have q4 := (k11 4 (by decide)).trans q4
  have q10 := (k11 10 (by decide)).trans q10
  have q11 := (k11 11 (by decide)).trans q11
  have q12 := (k11 12 (by decide)).trans q12
  refine fin f11 w11 os (ps ++ [(a, i)]) v11 v9 F11 Fs q0 p3 q4 q10 q11 q12 hst2 (by simp; omega) (by omega) hO11 (hS9.keep g11 fun x hx hy => hd x hy hx) (fun x hx hy => ?_) (fun x hx => ?_) hsN (gr4.chl_trans g11 hoN) (fun e => by simp at e)
  ·rcases hF11 x hx with e | e
   ·exact hd x e hy
   ·have := hS9.lt x hy; omega
  ·rcases hF11 x hx with e | e
   ·exact hoN x e
   ·exact Nat.le_trans gr4.size e
 ·have hp : pAt L a = true := by simpa using hp
  rw [if_pos hp] at hst2
  exact fin f10 w4 os ps vo v9 Fo Fs q0 q3 q4 q10 q11 q12 hst2 hpl (by omega) hO4 hS9 hd hoN hsN gr4 hE4
end Go.Proofs.YtoegnikpokgbfaaGreatDoor
set_option maxRecDepth 8000
namespace Go.Proofs.YtoegnikpokgbfaaGreatDoor
open Go Go.Dv
open Go.Vc (D shrI xorI andI)
open Go.Vc (D shrI xorI andI okV CellF ValsF Cells)
open Go.Shelf
def Tryz.sortP_ren : Go.Shelf.Ren := ⟨fun | 6 => 38 | 15 => 97 | 14 => 96 | 28 => 162 | 29 => 163 | 20 => 154 | 21 => 155 | 22 => 156 | 23 => 157 | 24 => 158 | 25 => 159 | 26 => 160 | 27 => 161 | 46 => 212 | 47 => 213 | 48 => 214 | 49 => 215 | 50 => 216 | 57 => 237 | n => n, fun | 22 => 33 | 24 => 45 | 25 => 64 | 3 => 3 | 39 => 113 | 0 => 0 | 53 => 165 | 55 => 167 | 4 => 4 | 46 => 158 | 45 => 157 | 50 => 162 | 5 => 5 | 9 => 9 | 66 => 198 | 70 => 202 | 76 => 216 | 77 => 217 | n => n, fun | n => n⟩
theorem Tryz.sortP : Go.Proofs.SlLaysF.n6 Tryz.prog Tryz.sortP_ren := {
 mixed := by kernel_rfl
 f6 := ⟨Tryz.f38.name, by decide, Tryz.func38.trans (congrArg some (by kernel_rfl))⟩
 f14 := ⟨Tryz.f96.name, by decide, Tryz.func96.trans (congrArg some (by kernel_rfl))⟩
 f15 := Tryz.func97.trans (congrArg some (by kernel_rfl))
 f20 := ⟨Tryz.f154.name, by decide, Tryz.func154.trans (congrArg some (by kernel_rfl))⟩
 f21 := ⟨Tryz.f155.name, by decide, Tryz.func155.trans (congrArg some (by kernel_rfl))⟩
 f22 := ⟨Tryz.f156.name, by decide, Tryz.func156.trans (congrArg some (by kernel_rfl))⟩
 f23 := ⟨Tryz.f157.name, by decide, Tryz.func157.trans (congrArg some (by kernel_rfl))⟩
 f24 := ⟨Tryz.f158.name, by decide, Tryz.func158.trans (congrArg some (by kernel_rfl))⟩
 f25 := ⟨Tryz.f159.name, by decide, Tryz.func159.trans (congrArg some (by kernel_rfl))⟩
 f26 := ⟨Tryz.f160.name, by decide, Tryz.func160.trans (congrArg some (by kernel_rfl))⟩
 f27 := ⟨Tryz.f161.name, by decide, Tryz.func161.trans (congrArg some (by kernel_rfl))⟩
 f28 := Tryz.func162.trans (congrArg some (by kernel_rfl))
 f29 := Tryz.func163.trans (congrArg some (by kernel_rfl))
 f46 := ⟨Tryz.f212.name, by decide, Tryz.func212.trans (congrArg some (by kernel_rfl))⟩
 f47 := Tryz.func213.trans (congrArg some (by kernel_rfl))
 f48 := Tryz.func214.trans (congrArg some (by kernel_rfl))
 f49 := ⟨Tryz.f215.name, by decide, Tryz.func215.trans (congrArg some (by kernel_rfl))⟩
 f50 := ⟨Tryz.f216.name, by decide, Tryz.func216.trans (congrArg some (by kernel_rfl))⟩
 f57 := ⟨Tryz.f237.name, by decide, Tryz.func237.trans (congrArg some (by kernel_rfl))⟩
 t0 := Tryz.underlying0
 a0 := Tryz.isAgg0
 z0 := Tryz.sizeOf0
 v0 := Tryz.zeroValue0
 t3 := Tryz.underlying3
 a3 := Tryz.isAgg3
 z3 := Tryz.sizeOf3
 v3 := Tryz.zeroValue3
 t4 := Tryz.underlying4
 a4 := Tryz.isAgg4
 z4 := Tryz.sizeOf4
 v4 := Tryz.zeroValue4
 t5 := Tryz.underlying5
 a5 := Tryz.isAgg5
 z5 := Tryz.sizeOf5
 v5 := Tryz.zeroValue5
 t9 := Tryz.underlying9
 a9 := Tryz.isAgg9
 z9 := Tryz.sizeOf9
 v9 := Tryz.zeroValue9
 t22 := Tryz.underlying33
 a22 := Tryz.isAgg33
 z22 := Tryz.sizeOf33
 v22 := Tryz.zeroValue33
 a24 := Tryz.isAgg45
 z24 := Tryz.sizeOf45
 t25 := Tryz.underlying64
 a25 := Tryz.isAgg64
 z25 := Tryz.sizeOf64
 v25 := Tryz.zeroValue64
 t39 := Tryz.underlying113
 a39 := Tryz.isAgg113
 z39 := Tryz.sizeOf113
 v39 := Tryz.zeroValue113
 t45 := Tryz.underlying157
 a45 := Tryz.isAgg157
 z45 := Tryz.sizeOf157
 v45 := Tryz.zeroValue157
 t46 := Tryz.underlying158
 a46 := Tryz.isAgg158
 z46 := Tryz.sizeOf158
 v46 := Tryz.zeroValue158
 t50 := Tryz.underlying162
 a50 := Tryz.isAgg162
 z50 := Tryz.sizeOf162
 v50 := Tryz.zeroValue162
 t53 := Tryz.underlying165
 a53 := Tryz.isAgg165
 z53 := Tryz.sizeOf165
 v53 := Tryz.zeroValue165
 t55 := Tryz.underlying167
 a55 := Tryz.isAgg167
 z55 := Tryz.sizeOf167
 v55 := Tryz.zeroValue167
 t66 := Tryz.underlying198
 a66 := Tryz.isAgg198
 z66 := Tryz.sizeOf198
 v66 := Tryz.zeroValue198
 t70 := Tryz.underlying202
 a70 := Tryz.isAgg202
 z70 := Tryz.sizeOf202
 v70 := Tryz.zeroValue202
 t76 := Tryz.underlying216
 a76 := Tryz.isAgg216
 z76 := Tryz.sizeOf216
 v76 := Tryz.zeroValue216
 t77 := Tryz.underlying217
 a77 := Tryz.isAgg217
 z77 := Tryz.sizeOf217
 v77 := Tryz.zeroValue217 }
def Tryz.cmpI_ren : Go.Shelf.Ren := ⟨fun | 5 => 40 | 7 => 98 | n => n, fun | 22 => 3 | 3 => 3 | 4 => 4 | n => n, fun | n => n⟩
theorem Tryz.cmpI : Go.Proofs.SlLaysC2.n5 Tryz.prog Tryz.cmpI_ren := {
 mixed := by kernel_rfl
 f5 := ⟨Tryz.f40.name, by decide, Tryz.func40.trans (congrArg some (by kernel_rfl))⟩
 f7 := ⟨Tryz.f98.name, by decide, Tryz.func98.trans (congrArg some (by kernel_rfl))⟩
 t3 := Tryz.underlying3
 a3 := Tryz.isAgg3
 z3 := Tryz.sizeOf3
 v3 := Tryz.zeroValue3
 t4 := Tryz.underlying4
 a4 := Tryz.isAgg4
 z4 := Tryz.sizeOf4
 v4 := Tryz.zeroValue4
 t22 := Tryz.underlying3
 a22 := Tryz.isAgg3
 z22 := Tryz.sizeOf3
 v22 := Tryz.zeroValue3 }
open Go.Cv Go.Cx
set_option maxHeartbeats 1000000 in
theorem clo_raw {W : World} {b b' n c n' c' : Nat} {x y : Int} (hx : W.cell? ⟨b, 0, none⟩ = some (.int .i64 x)) (hy : W.cell? ⟨b', 0, none⟩ = some (.int .i64 y)) (hn : 0 < n) (hn' : 0 < n') :
 Calls Tryz.prog 39 #[.slice (some ⟨b, 0, none⟩) n c, .slice (some ⟨b', 0, none⟩) n' c'] W fun e w' => e = .returned (.int .i64 (Go.Lib.compareInt x y)) ∧ ∃ q, w' = Go.World.drewN W q := by
 have hc : Calls Tryz.prog 40 #[.int .i64 x, .int .i64 y] W.drew fun e w' => ∃ v, e = .returned v ∧ v = .int .i64 (Go.Lib.compareInt x y) ∧ w' = W.drew :=
  (AnyG.cmp_Compare_int Tryz.cmpI x y W.drew).mono fun _ _ ⟨h1, h2⟩ => ⟨_, h1, rfl, h2⟩
 refine Calls.mono (@calls_of_x _ W 39 Tryz.f39 _ [.slice (some ⟨b, 0, none⟩) n c, .slice (some ⟨b', 0, none⟩) n' c'] (fun v w' => v = .int .i64 (Go.Lib.compareInt x y) ∧ w' = W.drew) Tryz.func39 rfl (Nat.le_of_ble_eq_true rfl) ?_) fun e w' ⟨v, h1, h2, h3⟩ => ⟨by rw [h1, h2], 1, h3⟩
 simp (maxSteps := 10000000) only [tt, Go.Cx.xc, Go.Cx.xl, Go.Cx.xOp, Go.Cv.cg0, Go.Cv.cOp, Go.Cv.cEnd, Go.Cv.cRet, Go.Cv.regsV, seval, Tryz.f39]
 refine ⟨follows_mixed, ⟨by kernel_rfl, (pln [0, 2, 4, 6, 8, 10, 13, 14]), by kernel_rfl, fun w1 hw1 => ?_⟩⟩
 have c0 : w1.cell? ⟨b, 0, none⟩ = some (.int .i64 x) := by rw [hw1]; exact hx
 have c1 : w1.cell? ⟨b', 0, none⟩ = some (.int .i64 y) := by rw [hw1]; exact hy
 simp (maxSteps := 10000000) only [tt, Go.Cx.xOp, Go.Cx.xCall, Go.Cx.xPlan, pln, Go.Cv.cg0, Go.Cv.cOp, Go.Cv.cLoad, Go.Cx.argsW, Nat.add_zero, seval]
 refine ⟨by omega, _, c0, ?_⟩
 refine ⟨by omega, _, c1, ?_⟩
 refine ⟨by kernel_rfl, _, by rw [hw1]; exact hc, fun v w' hv => Stp.go ?_⟩
 obtain ⟨rfl, rfl⟩ := hv
 simp (maxSteps := 10000000) only [tt, seval]
theorem sw_heap {α : Type} [Inhabited α] (enc : α → Value) {w : World} {blk m : Nat} {d : Array α} {os : Array Obj} {cur : Array Value} {t : TypeId} {fz : Nat × Nat} (hb : w.heap[blk]? = some (.cells cur t fz)) :
 (sortWorld enc w blk 0 m d os).heap[blk]? = some (.cells (Go.Sort.putCells enc 0 d cur) t fz) ∧ ChL [blk] w (sortWorld enc w blk 0 m d os) := by
 have hlt := (Array.getElem?_eq_some_iff.1 hb).1
 have hs : w.heap.size ≤ (sortWorld enc w blk 0 m d os).heap.size := by simp [sortWorld]
 have hk : ∀ x, x < w.heap.size → x ≠ blk → (sortWorld enc w blk 0 m d os).heap[x]? = w.heap[x]? := fun x hx hn => by
  unfold sortWorld
  rw [Go.Sort.heap_grow_old _ _ (by simpa using hx)]
  show (w.heap.modify blk _)[x]? = _
  rw [Array.getElem?_modify, if_neg (fun e => hn e.symm)]
 have hbk : (sortWorld enc w blk 0 m d os).heap[blk]? = some (.cells (Go.Sort.putCells enc 0 d cur) t fz) := by
  unfold sortWorld
  rw [Go.Sort.heap_grow_old _ _ (by simpa using hlt)]
  show (w.heap.modify blk _)[blk]? = _
  rw [Array.getElem?_modify, if_pos rfl, hb]
  rfl
 refine ⟨hbk, ⟨⟨fun x hx hn => hk x (Go.Cv.vis_lt hx) (by simpa using hn), fun x hx => ?_, rfl, rfl, rfl⟩, hs, fun x hx hn => hk x hx (by simpa using hn)⟩⟩
 obtain ⟨ob, ho, hv⟩ := hx
 by_cases e : x = blk
 ·subst e; exact ⟨_, hbk, by simp [Go.Vc.hid]⟩
 ·exact ⟨ob, (hk x (Array.getElem?_eq_some_iff.1 ho).1 e).trans ho, hv⟩
def SE (w : World) (blk : Nat) : Type := { t : (Value × (Nat × Nat)) × List Nat // OwnT w (prow t.1.2) [t.1.1] t.2 ∧ blk ∉ t.2 }
def SE.v {w : World} {blk : Nat} (x : SE w blk) : Value := x.1.1.1
def SE.p {w : World} {blk : Nat} (x : SE w blk) : Nat × Nat := x.1.1.2
def SE.f {w : World} {blk : Nat} (x : SE w blk) : List Nat := x.1.2
def SE.cf {w : World} {blk : Nat} (x y : SE w blk) : Int := Go.Lib.compareInt x.p.1 y.p.1
theorem lt_cmp (a b : Int) : Go.Lib.compareInt a b < 0 ↔ a < b := by
 unfold Go.Lib.compareInt
 by_cases h1 : a < b
 ·simp [h1]
 ·by_cases h2 : b < a <;> simp [h1, h2]
theorem se_swo {w : World} {blk : Nat} : Go.Sort.SWO (ltOf (SE.cf (w := w) (blk := blk))) where
 irrefl x := by simp only [ltOf, SE.cf, decide_eq_false_iff_not, lt_cmp]; omega
 trans x y z h1 h2 := by simp only [ltOf, SE.cf, decide_eq_true_eq, lt_cmp] at *; omega
 ntrans x y z h1 h2 := by simp only [ltOf, SE.cf, decide_eq_false_iff_not, lt_cmp] at *; omega
theorem SE.at_ {w : World} {blk : Nat} (x : SE w blk) : ∃ b cap, x.v = .slice (some ⟨b, 0, none⟩) 2 cap ∧ b ≠ blk ∧ b < w.heap.size ∧ w.cell? ⟨b, 0, none⟩ = some (.int .i64 x.p.1) := by
 obtain ⟨b, cap, vs, F', cur, t, fz, sz, e1, e2, h, _, hc, hh, _⟩ := OwnT.into (n := 2) x.2.1 (by simp)
 refine ⟨b, cap, e1, fun e => x.2.2 (by rw [e2, e]; simp), (Array.getElem?_eq_some_iff.1 hh).1, ?_⟩
 obtain ⟨v1, r1, F1, R1, rfl, h1, k1, _⟩ := vals_cons h.val
 obtain ⟨rfl, _, _⟩ := h1
 exact hc 0 _ rfl
theorem se_one {w : World} {blk : Nat} : OneCell (SE.v (w := w) (blk := blk)) := fun x => by
 obtain ⟨b, cap, e, _⟩ := x.at_
 rw [e]; rfl
theorem se_of {w : World} {blk : Nat} : ∀ {ps : List (Nat × Nat)} {vs : List Value} {F : List Nat}, OwnT w (ps.flatMap prow) vs F → blk ∉ F → ∃ l : List (SE w blk), l.map SE.p = ps ∧ l.map SE.v = vs ∧ l.flatMap SE.f = F
 | [], vs, F, h, _ => by
  obtain ⟨rfl, rfl⟩ := vals_nil h.val
  exact ⟨[], rfl, rfl, rfl⟩
 | p :: ps, vs, F, h, hb => by
  obtain ⟨va, vb, Fa, Fb, rfl, rfl, ha, hb', _⟩ := OwnT.split (a := prow p) (b := ps.flatMap prow) h
  obtain ⟨v, rfl, _⟩ := OwnT.one (d := .sl 2 _) ha
  obtain ⟨l, rfl, rfl, rfl⟩ := se_of hb' (fun e => hb (List.mem_append_right _ e))
  exact ⟨⟨((v, p), Fa), ha, fun e => hb (List.mem_append_left _ e)⟩ :: l, rfl, rfl, rfl⟩
theorem se_own {w : World} {blk : Nat} : ∀ {l : List (SE w blk)}, (l.flatMap SE.f).Nodup → OwnT w ((l.map SE.p).flatMap prow) (l.map SE.v) (l.flatMap SE.f)
 | [], _ => ⟨vals_nil_mk, List.nodup_nil, OwnL.nil _, trivial⟩
 | x :: l, h => by
  obtain ⟨_, h2, h3⟩ := List.nodup_append.1 h
  exact OwnT.join x.2.1 (se_own h2) fun y hy hz => h3 y hy y hz rfl
end Go.Proofs.YtoegnikpokgbfaaGreatDoor
set_option maxRecDepth 8000
namespace Go.Proofs.YtoegnikpokgbfaaGreatDoor
open Go Go.Dv
open Go.Vc (D shrI xorI andI)
open Go.Vc (D shrI xorI andI okV CellF ValsF Cells)
open Go.Cv Go.Cx Go.Shelf
theorem sw_empty {α : Type} [Inhabited α] (enc : α → Value) {w : World} {blk m : Nat} {d : Array α} {os : Array Obj} (hd : d.size = 0) : Gr w (sortWorld enc w blk 0 m d os) := by
 have hk : ∀ x, x < w.heap.size → (sortWorld enc w blk 0 m d os).heap[x]? = w.heap[x]? := fun x hx => by
  unfold sortWorld
  rw [Go.Sort.heap_grow_old _ _ (by simpa using hx)]
  unfold Go.Sort.putRow
  rw [Go.Sort.mapBlock_id]
  ·rfl
  ·intro c e fr _
   unfold Go.Sort.putCells
   refine Array.ext (by simp) fun i h1 h2 => ?_
   simp only [Array.getElem_mapIdx]
   rw [if_neg (by omega)]
 exact ⟨by simp [sortWorld], hk, rfl, rfl, rfl⟩
set_option maxHeartbeats 1000000 in
theorem sort_raw {w : World} {ps : List (Nat × Nat)} {vo : Value} {F : List Nat} (hO : OwnT w [.sl ps.length (ps.flatMap prow)] [vo] F) (hE : ps = [] → ∃ b, vo = .slice (some ⟨b, 0, none⟩) 0 0 ∧ b < w.heap.size)
 (hM : ∃ b0 m, w.cell? ⟨b0, 0, none⟩ = some (.int .i64 m)) (hl : ps.length ≤ 1048576) :
 Calls Tryz.prog 38 #[vo, .func (.func 39) #[] #[]] w fun e w' => ∃ v, e = .returned v ∧ ∃ (qs : List (Nat × Nat)) (F' : List Nat), qs.Perm ps ∧ qs.Pairwise (fun p q => p.1 ≤ q.1) ∧ OwnT w' [.sl qs.length (qs.flatMap prow)] [vo] F' ∧ (∀ x, x ∈ F' → x ∈ F) ∧ ChL F w w' := by
 have eg : ∀ args w, (callFunc 39 args).run Tryz.prog w = .ok (.enter 39 args) w := enters_of Tryz.func39 (by kernel_rfl) rfl
 by_cases hne : ps = []
 ·obtain ⟨b, rfl, hb⟩ := hE hne
  subst hne
  obtain ⟨b0, m, hm⟩ := hM
  have hb0 : b0 < w.heap.size := by
   obtain ⟨cs, ty, lh, h, _⟩ := cell_block hm
   exact (Array.getElem?_eq_some_iff.1 h).1
  refine (Any.slices_SortFunc (α := Unit) Tryz.sortP (fun _ => .slice (some ⟨b0, 0, none⟩) 1 1) (fun _ => rfl) (fun _ _ => 0) ⟨fun _ => rfl, fun _ _ _ h => (by cases h), fun _ _ _ _ _ => rfl⟩ 39 #[] b 0 0 #[] w eg (fun n os dk hd x y => ?_) (fun j hj => absurd hj (Nat.not_lt_zero _)) hb (by decide)).mono ?_
  ·have hg := sw_empty (fun _ : Unit => .slice (some ⟨b0, 0, none⟩) 1 1) (w := w) (blk := b) (m := n) (d := dk) (os := os) hd
   have hc := cell_keep hg hb0 hm
   have := clo_raw hc hc (n := 1) (n' := 1) (c := 1) (c' := 1) (by decide) (by decide)
   rw [show Go.Lib.compareInt m m = 0 by simp [Go.Lib.compareInt]] at this
   exact this.mono fun e w' ⟨h1, q, h2⟩ => ⟨h1, q, #[], by rw [h2, Go.Sort.grow_empty]⟩
  ·rintro e w' ⟨rfl, d', n, os, ⟨hs, _, _⟩, _, rfl⟩
   have hg := sw_empty (fun _ : Unit => .slice (some ⟨b0, 0, none⟩) 1 1) (w := w) (blk := b) (m := n) (d := d') (os := os) hs
   exact ⟨_, rfl, [], F, List.Perm.refl _, List.Pairwise.nil, hO.keep (hg.chl []) (by simp), fun _ h => h, hg.chl F⟩
 ·have hdn : ps.flatMap prow ≠ [] := fun e => by
   have := congrArg List.length e
   rw [flatMap_len prow_len] at this
   exact hne (List.eq_nil_of_length_eq_zero (by simpa using this))
  obtain ⟨blk, cap, vs, F', cur, t, fz, sz, rfl, rfl, hin, hbn, hc, hh, hlh, h1, h2, h3, h4⟩ := hO.into hdn
  obtain ⟨l, rfl, rfl, rfl⟩ := se_of hin hbn
  have hsz : (l.toArray).size = l.length := rfl
  have hlt := (Array.getElem?_eq_some_iff.1 hh).1
  haveI : Inhabited (SE w blk) := ⟨l.head (fun e => by subst e; exact hne rfl)⟩
  have hget : ∀ (j : Nat) (hj : j < l.toArray.size), l.toArray[j]! = l[j]'(by simpa using hj) := fun j hj => by rw [getElem!_pos l.toArray j hj]; simp
  have hH : Go.Sort.Holds SE.v w blk 0 l.toArray := fun j hj => by
   have hj' : j < l.length := by simpa using hj
   have hcell : w.cell? ⟨blk, 0 + j, none⟩ = some l[j].v := hc j _ (by rw [List.getElem?_map, List.getElem?_eq_getElem hj']; rfl)
   refine ⟨by rw [hget j hj]; exact hcell, OwnL.frozen (F := [blk]) (fun x hx => ?_) (by simp) (by rw [hcell]; rfl)⟩
   obtain rfl : x = blk := by simpa using hx
   exact ⟨cur, t, fz, hh, hlh⟩
  have hlen : l.length ≤ 1048576 := by simpa using hl
  have key := Any.slices_SortFunc Tryz.sortP SE.v se_one SE.cf se_swo 39 #[] blk 0 cap l.toArray w eg (fun n os dk hd x y => ?_) hH hlt (by rw [hsz]; omega)
  ·rw [hsz] at key
   have e0 : l.length = (l.map SE.p).length := by simp
   rw [e0] at key
   refine Calls.mono key ?_
   rintro e w' ⟨rfl, d', n, os, ⟨hs, _, hp⟩, hso, rfl⟩
   obtain ⟨hbk, g⟩ := sw_heap SE.v (m := n) (d := d') (os := os) hh
   have hs' : d'.size = l.length := by simpa using hs
   have hp : d'.toList.Perm l := by
    have e1 : d'.extract 0 (l.map SE.p).length = d' := by rw [← e0, ← hs']; simp
    have e2 : l.toArray.extract 0 (l.map SE.p).length = l.toArray := by rw [← e0, ← hsz]; simp
    rw [e1, e2] at hp
    simpa using hp
   have hnd : (d'.toList.flatMap SE.f).Nodup := (hp.flatMap_right SE.f).nodup_iff.2 hin.nodup
   have hx : ∀ x, x ∈ d'.toList.flatMap SE.f → x ∈ l.flatMap SE.f := fun x hx => (hp.flatMap_right SE.f).mem_iff.1 hx
   have hbx : blk ∉ d'.toList.flatMap SE.f := fun e => hbn (hx _ e)
   have hown := (se_own hnd).keep g (fun x hx' e => hbx (by rw [List.mem_singleton.1 e] at hx'; exact hx'))
   refine ⟨_, rfl, d'.toList.map SE.p, blk :: d'.toList.flatMap SE.f, hp.map _, ?_, ?_, fun x hx' => ?_, g.mono (by simp)⟩
   ·rw [List.pairwise_map]
    refine List.pairwise_iff_getElem.2 fun i j hi hj hij => ?_
    have := hso i j (Nat.zero_le _) hij (by rw [← e0, ← hs']; simpa using hj)
    rw [getElem!_pos d' i (by simpa using hi), getElem!_pos d' j (by simpa using hj)] at this
    simp only [ltOf, SE.cf, decide_eq_false_iff_not, lt_cmp] at this
    simp only [Array.getElem_toList]
    omega
   ·have e3 : (d'.toList.map SE.p).length = (l.map SE.p).length := by simp [hs']
    rw [e3]
    have hz : sz = 1 := by
     have hp0 : 0 < l.length := List.length_pos_iff.2 fun e => hne (by rw [e]; rfl)
     rw [flatMap_len prow_len, List.length_map] at h3
     exact (Nat.eq_of_mul_eq_mul_left hp0 h3).symm
    subst hz
    refine hown.outof (sz := 1) hbx (fun j v hj => ?_) hbk (by simpa [Go.Sort.putCells] using hlh) h1 h2 (by rw [flatMap_len prow_len]; simp [hs']) (by simpa [Go.Sort.putCells] using h4) (fun e => ?_)
    ·rw [cell_of_row _ blk (0 + j) _ t fz hbk, Nat.zero_add]
     have hj' : j < d'.size := by simpa using (List.getElem?_eq_some_iff.1 hj).1
     have hcs : j < cur.size := by
      have : l.length * 1 ≤ cur.size := by
       have := Nat.mul_le_mul_right 1 h1
       rw [List.length_map] at this
       omega
      omega
     unfold Go.Sort.putCells
     rw [Array.getElem?_mapIdx, Array.getElem?_eq_getElem hcs, Option.map_some, if_pos (by omega), Nat.sub_zero, getElem!_pos d' j hj']
     rw [List.getElem?_map, List.getElem?_eq_getElem (by simpa using hj')] at hj
     simpa using hj
    ·have := congrArg List.length e
     rw [flatMap_len prow_len, List.length_map] at this
     simp at this
     have hl0 : l = [] := List.eq_nil_of_length_eq_zero (by rw [← hs', this]; rfl)
     exact hne (by rw [hl0]; rfl)
   ·rcases List.mem_cons.1 hx' with rfl | hx'
    ·simp
    ·exact List.mem_cons_of_mem _ (hx x hx')
  ·obtain ⟨b1, c1, e1, n1, l1, k1⟩ := x.at_
   obtain ⟨b2, c2, e2, n2, l2, k2⟩ := y.at_
   obtain ⟨_, g⟩ := sw_heap SE.v (m := n) (d := dk) (os := os) hh
   have kk : ∀ {b : Nat} {v : Value}, b ≠ blk → b < w.heap.size → w.cell? ⟨b, 0, none⟩ = some v → (sortWorld SE.v w blk 0 n dk os).cell? ⟨b, 0, none⟩ = some v := fun {b v} hb hlt h => by
    unfold World.cell? at h ⊢
    rw [g.keep b hlt (by simpa using hb)]; exact h
   have := clo_raw (kk n1 l1 k1) (kk n2 l2 k2) (n := 2) (n' := 2) (c := c1) (c' := c2) (by decide) (by decide)
   rw [← e1, ← e2] at this
   exact this.mono fun e w' ⟨h1, q, h2⟩ => ⟨h1, q, #[], by rw [h2, Go.Sort.grow_empty]⟩
theorem pr0 {K : KX} {f : Rg} {w : World}   (hk : ∀ (f' : Rg) , True → (∀ j, j ∉ [2] → f' j = f j) → K .normal f' w) : xc Tryz.prog 83 pR0 K f w := by
 simp (maxSteps := 10000000) only [tt, Go.Cx.xc, Go.Cx.xl, Go.Cx.xOp, Go.Cv.cg0, Go.Cv.cOp, seval, pR0, ]
 exact hk _ trivial (fun j hj => by simp only [List.mem_cons, List.not_mem_nil, or_false] at hj; simp only [upd, hj, if_false])
theorem pr1 {K : KX} {f : Rg} {w : World}   (hk : ∀ (f' : Rg) (w' : World) , (∃ b, f' 3 = .c (.v (.slice (some ⟨b, 0, none⟩) 0 0)) ∧ b < w'.heap.size) ∧ Gr w w' → (∀ j, j ∉ [8, 3] → f' j = f j) → K .normal f' w') : xc Tryz.prog 83 pR1 K f w := by
 simp (maxSteps := 10000000) only [tt, Go.Cx.xc, Go.Cx.xl, Go.Cx.xOp, Go.Cv.cg0, Go.Cv.cOp, seval, pR1, Go.Cx.xBuildS, Go.Cx.valsV]
 refine ⟨by kernel_rfl, fun v hv => absurd hv (by simp), fun b w1 hb hw => ?_⟩
 obtain ⟨hx, g1⟩ := box_new hb hw
 exact hk _ _ ⟨⟨b, rfl, (Array.getElem?_eq_some_iff.1 hx).1⟩, g1⟩ (fun j hj => by simp only [List.mem_cons, List.not_mem_nil, or_false, not_or] at hj; simp only [upd, hj, if_false])
theorem pr2 {K : KX} {f : Rg} {w : World}   (hk : ∀ (f' : Rg) (w' : World) , (∃ b, f' 4 = .c (.v (.slice (some ⟨b, 0, none⟩) 0 0)) ∧ b < w'.heap.size) ∧ Gr w w' → (∀ j, j ∉ [9, 4] → f' j = f j) → K .normal f' w') : xc Tryz.prog 83 pR2 K f w := by
 simp (maxSteps := 10000000) only [tt, Go.Cx.xc, Go.Cx.xl, Go.Cx.xOp, Go.Cv.cg0, Go.Cv.cOp, seval, pR2, Go.Cx.xBuildS, Go.Cx.valsV]
 refine ⟨by kernel_rfl, fun v hv => absurd hv (by simp), fun b w1 hb hw => ?_⟩
 obtain ⟨hx, g1⟩ := box_new hb hw
 exact hk _ _ ⟨⟨b, rfl, (Array.getElem?_eq_some_iff.1 hx).1⟩, g1⟩ (fun j hj => by simp only [List.mem_cons, List.not_mem_nil, or_false, not_or] at hj; simp only [upd, hj, if_false])
theorem pr3 {K : KX} {f : Rg} {w : World} {a : Option Addr} {n cap : Nat} (h0 : f 0 = .c (.v (.slice a n cap))) (hk : ∀ (f' : Rg) , f' 10 = .c (.v (.slice a n cap)) ∧ f' 11 = .c (.v (.int .i64 (n : Nat))) ∧ f' 12 = .c (.v (.int .i64 0)) → (∀ j, j ∉ [10, 11, 12] → f' j = f j) → K .normal f' w) : xc Tryz.prog 83 pR3 K f w := by
 simp (maxSteps := 10000000) only [tt, Go.Cx.xc, Go.Cx.xl, Go.Cx.xOp, Go.Cv.cg0, Go.Cv.cOp, seval, pR3, h0]
 exact hk _ ⟨rfl, rfl, rfl⟩ (fun j hj => by simp only [List.mem_cons, List.not_mem_nil, or_false, not_or] at hj; simp only [upd, hj, if_false])
theorem pr17 {K : KX} {f : Rg} {w : World} {vo : Value} (h3 : f 3 = .c (.v vo)) {R : World → Prop} (hR : Calls Tryz.prog 38 #[vo, .func (.func 39) #[] #[]] w fun e w' => ∃ v, e = .returned v ∧ R w') (hk : ∀ (f' : Rg) (w' : World) , R w' → (∀ j, j ∉ [80, 81] → f' j = f j) → K .normal f' w') : xc Tryz.prog 83 pR17 K f w := by
 simp (maxSteps := 10000000) only [tt, Go.Cx.xc, Go.Cx.xl, Go.Cx.xOp, Go.Cx.xCall, Go.Cv.cg0, Go.Cv.cOp, Go.Cx.argsW, seval, pR17, h3]
 refine ⟨by kernel_rfl, fun _ w' => R w', hR, fun v w' hr => Stp.go ?_⟩
 exact hk _ _ hr (fun j hj => by simp only [List.mem_cons, List.not_mem_nil, or_false, not_or] at hj; simp only [upd, hj, if_false])
theorem pr18 {K : KX} {f : Rg} {w : World} {vo : Value} (h3 : f 3 = .c (.v vo)) (hk : ∀ (f' : Rg) , f' 2 = .c (.v vo) → (∀ j, j ∉ [82, 2] → f' j = f j) → K .normal f' w) : xc Tryz.prog 83 pR18 K f w := by
 simp (maxSteps := 10000000) only [tt, Go.Cx.xc, Go.Cx.xl, Go.Cx.xOp, Go.Cv.cg0, Go.Cv.cOp, seval, pR18, h3]
 exact hk _ rfl (fun j hj => by simp only [List.mem_cons, List.not_mem_nil, or_false, not_or] at hj; simp only [upd, hj, if_false])
set_option maxHeartbeats 1000000 in
theorem PairsOf_raw {w : World} {L : List Tok} {v : Value} {G : List Nat} (hL : L.length ≤ 1048576) (h : CellF w (.sl L.length (L.flatMap Tok.row)) v G) (hM : ∃ b0 m, w.cell? ⟨b0, 0, none⟩ = some (.int .i64 m)) :
 Calls Tryz.prog 12 #[v] w fun e w' => ∃ r, e = .returned r ∧ ∃ F : List Nat, OwnT w' [.sl (prs L).length ((prs L).flatMap prow)] [r] F ∧ (∀ x, x ∈ F → w.heap.size ≤ x) ∧ Gr w w' := by
 refine @calls_of_y _ w 12 Tryz.f12 _ [v] _ Tryz.func12 pR_body (Nat.le_of_ble_eq_true rfl) ?_
 have hv : ∃ a cap, v = .slice a L.length cap := by
  obtain ⟨a, cap, rfl, _⟩ := h
  exact ⟨a, cap, rfl⟩
 obtain ⟨a, cap, rfl⟩ := hv
 have hn : Tryz.f12.ntmps = 83 := by kernel_rfl
 have hr : Tryz.f12.results.toList = [Go.ResultVar.tmp 2] := by kernel_rfl
 rw [hn, hr]
 have q0 : regsV [.slice a L.length cap] 0 = .c (.v (.slice a L.length cap)) := rfl
 generalize regsV [.slice a L.length cap] = g0 at q0
 refine x_seq (pr0 fun f1 _ k1 => sq_n (x_seq (pr1 fun f2 w2 ⟨⟨b3, q3, hb3⟩, g2⟩ k2 => sq_n (x_seq (pr2 fun f3 w3 ⟨⟨b4, q4, hb4⟩, g3⟩ k3 => sq_n (x_seq (x_seq ?_)))))))
 have q0 := (k3 0 (by decide)).trans ((k2 0 (by decide)).trans ((k1 0 (by decide)).trans q0))
 have q3 := (k3 3 (by decide)).trans q3
 refine pr3 q0 fun f4 ⟨q10, q11, q12⟩ k4 => sq_n (x_block ?_)
 have q0 := (k4 0 (by decide)).trans q0
 have q3 := (k4 3 (by decide)).trans q3
 have q4 := (k4 4 (by decide)).trans q4
 have gr := g2.trans g3
 have hin : ∀ k ∈ [3, 4, 12], Go.Vc.inN (Go.Vc.dsts pRB) k = true := by decide
 have hout : ∀ k ∈ [0, 10, 11], Go.Vc.inN (Go.Vc.dsts pRB) k = false := by decide
 have mi : ∀ (g : Rg) k, k ∈ [3, 4, 12] → mixR (Go.Vc.dsts pRB) f4 g k = g k := fun g k hk => by unfold mixR; rw [if_pos (hin k hk)]
 have mo : ∀ (g : Rg) k (u : Value), k ∈ [0, 10, 11] → f4 k = .c (.v u) → mixR (Go.Vc.dsts pRB) f4 g k = .c (.v u) := fun g k u hk hu => by
  unfold mixR
  rw [if_neg (by rw [hout k hk]; decide), hu]; rfl
 have mixI : ∀ {g : Rg} {w' : World}, PrI w L (.slice a L.length cap) g w' → PrI w L (.slice a L.length cap) (mixR (Go.Vc.dsts pRB) f4 g) w' := by
  rintro g w' ⟨i, os, ps, vo, vs, Fo, Fs, p0, p3, p4, p10, p11, p12, hr⟩
  exact ⟨i, os, ps, vo, vs, Fo, Fs, mo g 0 _ (by decide) q0, (mi g 3 (by decide)).trans p3, (mi g 4 (by decide)).trans p4, mo g 10 _ (by decide) q10, mo g 11 _ (by decide) q11, (mi g 12 (by decide)).trans p12, hr⟩
 refine ⟨fun f w' => PrI w L (.slice a L.length cap) f w', fun f _ => (L.length - ixS (f 12)).toNat, mixI ⟨0, [], [], _, _, [], [], q0, q3, q4, q10, q11, q12, Nat.zero_le _, StAt.start L, Nat.le_refl _, Nat.le_refl _, ?_, Stk.nil _ _, by simp, by simp, by simp, gr, fun _ => ⟨b3, rfl, Nat.lt_of_lt_of_le hb3 g3.size⟩⟩, fun g w4 hI => ?_⟩
 ·exact ⟨⟨[], [], ⟨_, 0, rfl, Nat.le_refl _, by simp [maxLen], fun _ => rfl, .inl ⟨rfl, rfl⟩⟩, rfl, rfl⟩, List.nodup_nil, OwnL.nil _, ⟨_, 0, rfl, fun _ => rfl, .inl rfl⟩, trivial⟩
 refine PairsOf_round hL h _ _ w4 hI (fun f w' hh => ?_) (fun f w' hh hlt => ⟨mixI hh, ?_⟩)
 ·obtain ⟨os, ps, vo, Fo, p3, hst, hpl, hO, hoN, gr', hE⟩ := hh
  refine bk_e (sq_n (x_seq ?_))
  have hM' : ∃ b0 m, w'.cell? ⟨b0, 0, none⟩ = some (.int .i64 m) := by
   obtain ⟨b0, m, hm⟩ := hM
   obtain ⟨cs, ty, lh, hb, _⟩ := cell_block hm
   exact ⟨b0, m, cell_keep gr' (Array.getElem?_eq_some_iff.1 hb).1 hm⟩
  refine pr17 p3 (sort_raw hO hE hM' (by omega)) fun f5 w5 ⟨qs, F', hp, hso, hO', hF', g'⟩ k5 => sq_n (x_seq ?_)
  have p3 := (k5 3 (by decide)).trans p3
  refine pr18 p3 fun f6 p2 k6 => sq_n ?_
  have e : qs = prs L := by
   refine sorted_eq hst (fun q => hp.mem_iff) hso ?_
   exact (hp.map Prod.fst).nodup_iff.2 (List.nodup_append.1 hst.nd).1
  subst e
  refine x_ret p2 ?_
  exact ⟨F', hO', fun x hx => hoN x (hF' x hx), gr'.chl_trans g' hoN⟩
 ·show (L.length - ixS (mixR _ f4 f 12)).toNat < _
  rw [mi f 12 (by decide)]; exact hlt
end Go.Proofs.YtoegnikpokgbfaaGreatDoor
set_option maxRecDepth 8000
namespace Go.Proofs.YtoegnikpokgbfaaGreatDoor
open Go Go.Dv
open Go.Vc (D shrI xorI andI)
open Go.Vc (D shrI xorI andI okV CellF ValsF Cells)
open Go.Cv Go.Cx
def TkS (w : World) (b cap n : Nat) (vs : List Value) : Prop := ∃ cur t fz, w.heap[b]? = some (.cells cur t fz) ∧ Lh cur.size fz ∧ Cells w b 0 vs ∧ vs.length = n * 3 ∧ n ≤ cap ∧ cap ≤ maxLen ∧ cap * 3 ≤ cur.size
def cR0 : Go.Code := Go.Code.region 0 #[{ dst := Option.some 2, op := Go.Op.assign (Go.Operand.const (Go.Value.slice Option.none 0 0)), type := 31, pos := "slices.go:355", after := #[], guard := Option.none }] Bool.false
def cR1 : Go.Code := Go.Code.region 1 #[{ dst := Option.some 3, op := Go.Op.move (Go.Operand.tmp 0), type := 31, pos := "slices.go:357", after := #[], guard := Option.none }, { dst := Option.some 4, op := Go.Op.binOp Go.BinOp.eql 31 (Go.Operand.tmp 3) (Go.Operand.const (Go.Value.slice Option.none 0 0)) 31, type := 4, pos := "slices.go:357", after := #[{ on := 0, ground := Go.Ground.data }], guard := Option.none }] Bool.false
def cR2 : Go.Code := Go.Code.region 2 #[{ dst := Option.some 2, op := Go.Op.assign (Go.Operand.const (Go.Value.slice Option.none 0 0)), type := 31, pos := "slices.go:358", after := #[], guard := Option.none }] Bool.false
def cR3 : Go.Code := Go.Code.region 3 #[{ dst := Option.some 5, op := Go.Op.buildSlice 31 0 #[], type := 31, pos := "slices.go:362", after := #[], guard := Option.none }, { dst := Option.some 6, op := Go.Op.move (Go.Operand.tmp 0), type := 31, pos := "slices.go:362", after := #[], guard := Option.none }, { dst := Option.some 7, op := Go.Op.call { callee := Go.Callee.builtin Go.Builtin.append, args := #[Go.Operand.tmp 5, Go.Operand.tmp 6], argTypes := #[31, 31] }, type := 31, pos := "slices.go:362", after := #[{ on := 0, ground := Go.Ground.data }, { on := 1, ground := Go.Ground.data }], guard := Option.none }, { dst := Option.some 2, op := Go.Op.assign (Go.Operand.tmp 7), type := 31, pos := "slices.go:362", after := #[{ on := 2, ground := Go.Ground.data }, { on := 2, ground := Go.Ground.chain }, { on := 0, ground := Go.Ground.phase }, { on := 1, ground := Go.Ground.phase }, { on := 2, ground := Go.Ground.phase }], guard := Option.none }] Bool.false
theorem cR_body : Tryz.f69.body = Option.some (cR0.seq ((cR1.seq (Go.Code.cond (Go.Operand.tmp 4) (cR2.seq Go.Code.ret) Go.Code.skip)).seq (cR3.seq Go.Code.ret))) := by kernel_rfl
def dR0 : Go.Code := Go.Code.region 0 #[{ dst := Option.some 6, op := Go.Op.assign (Go.Operand.const (Go.Value.slice Option.none 0 0)), type := 31, pos := "slices.go:224", after := #[], guard := Option.none }] Bool.false
def dR1 : Go.Code := Go.Code.region 1 #[{ dst := Option.some 8, op := Go.Op.move (Go.Operand.tmp 0), type := 31, pos := "slices.go:225", after := #[], guard := Option.none }, { dst := Option.some 9, op := Go.Op.move (Go.Operand.tmp 1), type := 3, pos := "slices.go:225", after := #[], guard := Option.none }, { dst := Option.some 10, op := Go.Op.move (Go.Operand.tmp 2), type := 3, pos := "slices.go:225", after := #[], guard := Option.none }, { dst := Option.some 11, op := Go.Op.move (Go.Operand.tmp 0), type := 31, pos := "slices.go:225", after := #[], guard := Option.none }, { dst := Option.some 12, op := Go.Op.call { callee := Go.Callee.builtin Go.Builtin.len, args := #[Go.Operand.tmp 11], argTypes := #[31] }, type := 3, pos := "slices.go:225", after := #[{ on := 3, ground := Go.Ground.data }], guard := Option.none }, { dst := Option.some 13, op := Go.Op.slice 31 (Go.Operand.tmp 8) (Option.some (Go.Operand.tmp 9)) (Option.some (Go.Operand.tmp 10)) (Option.some (Go.Operand.tmp 12)), type := 31, pos := "slices.go:225", after := #[{ on := 0, ground := Go.Ground.data }, { on := 1, ground := Go.Ground.data }, { on := 2, ground := Go.Ground.data }, { on := 4, ground := Go.Ground.data }], guard := Option.none }] Bool.false
def dR2 : Go.Code := Go.Code.region 2 #[{ dst := Option.some 14, op := Go.Op.move (Go.Operand.tmp 1), type := 3, pos := "slices.go:227", after := #[], guard := Option.none }, { dst := Option.some 15, op := Go.Op.move (Go.Operand.tmp 2), type := 3, pos := "slices.go:227", after := #[], guard := Option.none }, { dst := Option.some 16, op := Go.Op.binOp Go.BinOp.eql 3 (Go.Operand.tmp 14) (Go.Operand.tmp 15) 3, type := 4, pos := "slices.go:227", after := #[{ on := 0, ground := Go.Ground.data }, { on := 1, ground := Go.Ground.data }], guard := Option.none }] Bool.false
def dR3 : Go.Code := Go.Code.region 3 #[{ dst := Option.some 17, op := Go.Op.move (Go.Operand.tmp 0), type := 31, pos := "slices.go:228", after := #[], guard := Option.none }, { dst := Option.some 6, op := Go.Op.assign (Go.Operand.tmp 17), type := 31, pos := "slices.go:228", after := #[{ on := 0, ground := Go.Ground.data }, { on := 0, ground := Go.Ground.phase }], guard := Option.none }] Bool.false
def dR4 : Go.Code := Go.Code.region 4 #[{ dst := Option.some 18, op := Go.Op.move (Go.Operand.tmp 0), type := 31, pos := "slices.go:231", after := #[], guard := Option.none }, { dst := Option.some 19, op := Go.Op.call { callee := Go.Callee.builtin Go.Builtin.len, args := #[Go.Operand.tmp 18], argTypes := #[31] }, type := 3, pos := "slices.go:231", after := #[{ on := 0, ground := Go.Ground.data }], guard := Option.none }, { dst := Option.some 7, op := Go.Op.assign (Go.Operand.tmp 19), type := 3, pos := "slices.go:231", after := #[{ on := 1, ground := Go.Ground.data }, { on := 0, ground := Go.Ground.phase }, { on := 1, ground := Go.Ground.phase }], guard := Option.none }] Bool.false
def dR5 : Go.Code := Go.Code.region 5 #[{ dst := Option.some 20, op := Go.Op.move (Go.Operand.tmp 0), type := 31, pos := "slices.go:232", after := #[], guard := Option.none }, { dst := Option.some 21, op := Go.Op.move (Go.Operand.tmp 1), type := 3, pos := "slices.go:232", after := #[], guard := Option.none }, { dst := Option.some 22, op := Go.Op.slice 31 (Go.Operand.tmp 20) Option.none (Option.some (Go.Operand.tmp 21)) Option.none, type := 31, pos := "slices.go:232", after := #[{ on := 0, ground := Go.Ground.data }, { on := 1, ground := Go.Ground.data }], guard := Option.none }, { dst := Option.some 23, op := Go.Op.move (Go.Operand.tmp 0), type := 31, pos := "slices.go:232", after := #[], guard := Option.none }, { dst := Option.some 24, op := Go.Op.move (Go.Operand.tmp 2), type := 3, pos := "slices.go:232", after := #[], guard := Option.none }, { dst := Option.some 25, op := Go.Op.slice 31 (Go.Operand.tmp 23) (Option.some (Go.Operand.tmp 24)) Option.none Option.none, type := 31, pos := "slices.go:232", after := #[{ on := 3, ground := Go.Ground.data }, { on := 4, ground := Go.Ground.data }], guard := Option.none }, { dst := Option.some 26, op := Go.Op.call { callee := Go.Callee.builtin Go.Builtin.append, args := #[Go.Operand.tmp 22, Go.Operand.tmp 25], argTypes := #[31, 31] }, type := 31, pos := "slices.go:232", after := #[{ on := 2, ground := Go.Ground.data }, { on := 5, ground := Go.Ground.data }], guard := Option.none }, { dst := Option.some 0, op := Go.Op.assign (Go.Operand.tmp 26), type := 31, pos := "slices.go:232", after := #[{ on := 6, ground := Go.Ground.data }, { on := 6, ground := Go.Ground.chain }, { on := 0, ground := Go.Ground.phase }, { on := 1, ground := Go.Ground.phase }, { on := 2, ground := Go.Ground.phase }, { on := 3, ground := Go.Ground.phase }, { on := 4, ground := Go.Ground.phase }, { on := 5, ground := Go.Ground.phase }, { on := 6, ground := Go.Ground.phase }], guard := Option.none }] Bool.true
def dR6 : Go.Code := Go.Code.region 6 #[{ dst := Option.some 27, op := Go.Op.move (Go.Operand.tmp 0), type := 31, pos := "slices.go:233", after := #[], guard := Option.none }, { dst := Option.some 28, op := Go.Op.move (Go.Operand.tmp 0), type := 31, pos := "slices.go:233", after := #[], guard := Option.none }, { dst := Option.some 29, op := Go.Op.call { callee := Go.Callee.builtin Go.Builtin.len, args := #[Go.Operand.tmp 28], argTypes := #[31] }, type := 3, pos := "slices.go:233", after := #[{ on := 1, ground := Go.Ground.data }], guard := Option.none }, { dst := Option.some 30, op := Go.Op.move (Go.Operand.tmp 7), type := 3, pos := "slices.go:233", after := #[], guard := Option.none }, { dst := Option.some 31, op := Go.Op.slice 31 (Go.Operand.tmp 27) (Option.some (Go.Operand.tmp 29)) (Option.some (Go.Operand.tmp 30)) Option.none, type := 31, pos := "slices.go:233", after := #[{ on := 0, ground := Go.Ground.data }, { on := 2, ground := Go.Ground.data }, { on := 3, ground := Go.Ground.data }], guard := Option.none }, { dst := Option.none, op := Go.Op.call { callee := Go.Callee.builtin Go.Builtin.clear, args := #[Go.Operand.tmp 31], argTypes := #[31] }, type := 0, pos := "slices.go:233", after := #[{ on := 4, ground := Go.Ground.data }], guard := Option.none }] Bool.false
def dR7 : Go.Code := Go.Code.region 7 #[{ dst := Option.some 32, op := Go.Op.move (Go.Operand.tmp 0), type := 31, pos := "slices.go:234", after := #[], guard := Option.none }, { dst := Option.some 6, op := Go.Op.assign (Go.Operand.tmp 32), type := 31, pos := "slices.go:234", after := #[{ on := 0, ground := Go.Ground.data }, { on := 0, ground := Go.Ground.phase }], guard := Option.none }] Bool.false
theorem dR_body : Tryz.f70.body = Option.some (dR0.seq (dR1.seq ((dR2.seq (Go.Code.cond (Go.Operand.tmp 16) (dR3.seq Go.Code.ret) Go.Code.skip)).seq (dR4.seq (dR5.seq (dR6.seq (dR7.seq Go.Code.ret))))))) := by kernel_rfl
theorem cl0 {K : KX} {f : Rg} {w : World}   (hk : ∀ (f' : Rg) , True → (∀ j, j ∉ [2] → f' j = f j) → K .normal f' w) : xc Tryz.prog 8 cR0 K f w := by
 simp (maxSteps := 10000000) only [tt, Go.Cx.xc, Go.Cx.xl, Go.Cx.xOp, Go.Cv.cg0, Go.Cv.cOp, seval, cR0, ]
 exact hk _ trivial (fun j hj => by simp only [List.mem_cons, List.not_mem_nil, or_false] at hj; simp only [upd, hj, if_false])
theorem cl1 {K : KX} {f : Rg} {w : World} {a : Option Addr} {n cap : Nat} (h0 : f 0 = .c (.v (.slice a n cap))) (hk : ∀ (f' : Rg) , f' 4 = .c (.v (.bool a.isNone)) → (∀ j, j ∉ [3, 4] → f' j = f j) → K .normal f' w) : xc Tryz.prog 8 cR1 K f w := by
 simp (maxSteps := 10000000) only [tt, Go.Cx.xc, Go.Cx.xl, Go.Cx.xOp, Go.Cv.cg0, Go.Cv.cOp, seval, cR1, h0]
 refine ⟨.bool a.isNone, fun w' => ?_, trivial, ?_⟩
 ·have e := Go.Lib.run_eql_slice_nil (P := Tryz.prog) w' 31 61 a n cap 0 0 (by kernel_rfl)
  simp [eqGuard, e]
 ·try simp (maxSteps := 10000000) only [tt, seval]
  exact hk _ rfl (fun j hj => by simp only [List.mem_cons, List.not_mem_nil, or_false, not_or] at hj; simp only [upd, hj, if_false])
theorem cl2 {K : KX} {f : Rg} {w : World}   (hk : ∀ (f' : Rg) , f' 2 = .c (.v (.slice none 0 0)) → (∀ j, j ∉ [2] → f' j = f j) → K .normal f' w) : xc Tryz.prog 8 cR2 K f w := by
 simp (maxSteps := 10000000) only [tt, Go.Cx.xc, Go.Cx.xl, Go.Cx.xOp, Go.Cv.cg0, Go.Cv.cOp, seval, cR2, ]
 exact hk _ rfl (fun j hj => by simp only [List.mem_cons, List.not_mem_nil, or_false] at hj; simp only [upd, hj, if_false])
theorem cl3 {K : KX} {f : Rg} {w : World} {a : Option Addr} {q cq : Nat} (h0 : f 0 = .c (.v (.slice a q cq))) {vs : List Value} (hr : Rd w 3 a q vs) (h1 : ∀ v, v ∈ vs → v.oneCell' = true) (hq : q ≤ 1048576) (hk : ∀ (f' : Rg) (w' : World) , (∃ b cap, f' 2 = .c (.v (.slice (some ⟨b, 0, none⟩) q cap)) ∧ w.heap.size ≤ b ∧ (q = 0 → cap = 0) ∧ TkS w' b cap q vs) ∧ Gr w w' → (∀ j, j ∉ [5, 6, 7, 2] → f' j = f j) → K .normal f' w') : xc Tryz.prog 8 cR3 K f w := by
 simp (maxSteps := 10000000) only [tt, Go.Cx.xc, Go.Cx.xl, Go.Cx.xOp, Go.Cv.cg0, Go.Cv.cOp, seval, cR3, h0, Go.Cx.xBuildS, Go.Cx.valsV]
 refine ⟨by kernel_rfl, fun v hv => absurd hv (by simp), fun b w1 hb hw => ?_⟩
 obtain ⟨hx, g1⟩ := box_new hb hw
 have hr1 : Rd w1 3 a q vs := ⟨hr.1, hr.2.imp id fun ⟨b, o, e, hc⟩ => ⟨b, o, e, fun i v hi => by
  have := hc i v hi
  obtain ⟨cs, ty, lh, hb, _⟩ := cell_block this
  exact cell_keep g1 (Array.getElem?_eq_some_iff.1 hb).1 this⟩⟩
 have he : Go.Vc.elemS Tryz.prog 31 = some (61, 3, 32) := by kernel_rfl
 have hU : Program.underlying Tryz.prog 31 = some (.slice 61) := by kernel_rfl
 unfold xAppend
 rw [he, hU]
 refine ⟨by decide, by kernel_rfl, [], vs, ⟨rfl, .inl rfl⟩, hr1, h1, fun hle => ?_, fun hlt => ⟨⟨by simp only [maxLen]; omega, by omega⟩, fun cap' junk b2 w2 hb2 hl hm hj hw2 => ?_⟩⟩
 ·obtain rfl : q = 0 := by omega
  have hv0 : vs = [] := List.eq_nil_of_length_eq_zero (by rw [hr.1])
  subst hv0
  have hw' : w1.setRow b ((#[] : Array Value).toList.take (0 * 3) ++ [] ++ (#[] : Array Value).toList.drop (0 * 3 + ([] : List Value).length)).toArray = w1 := setRow_self w1 b _ _ _ hx
  refine ⟨b, #[], _, (0, 0), rfl, hx, Lh.zero _, by simp, w1, hw', Stp.go ?_⟩
  simp (maxSteps := 10000000) only [tt, Nat.add_zero, seval]
  exact hk _ _ ⟨⟨b, 0, rfl, by omega, fun _ => rfl, ⟨#[], _, (0, 0), hx, Lh.zero _, fun j v hj => by simp at hj, rfl, Nat.le_refl _, by simp [maxLen], by simp⟩⟩, g1⟩ (fun j hj => by simp only [List.mem_cons, List.not_mem_nil, or_false, not_or] at hj; simp only [upd, hj, if_false])
 ·have hbw : w1.drew.heap.size = w1.heap.size := rfl
  have hx2 : w2.heap[b2]? = some (.cells ([] ++ vs ++ junk).toArray 61 (0, 0)) := by
   rw [hw2, hb2]; exact Go.heap_alloc_new w1.drew _
  have g2 : Gr w1 w2 := by
   rw [hw2]; exact ⟨by simp, fun y hy => Go.heap_alloc_old w1.drew _ hy, rfl, rfl, rfl⟩
  refine Stp.go ?_
  simp (maxSteps := 10000000) only [tt, seval]
  have hg := g1.size
  refine hk _ _ ⟨⟨b2, cap', (by show S.c _ = _; rw [Nat.zero_add]), by omega, fun e => by omega, ⟨_, _, _, hx2, Lh.zero _, box_cells hx2 (va := vs) (r := junk) (by simp), hr.1, by omega, hm, ?_⟩⟩, g1.trans g2⟩ (fun j hj => by simp only [List.mem_cons, List.not_mem_nil, or_false, not_or] at hj; simp only [upd, hj, if_false])
  simp only [List.size_toArray, List.length_append, hj, hr.1, List.length_nil]
  rw [Nat.zero_add, Nat.zero_add, ← Nat.add_mul]
  exact Nat.mul_le_mul_right _ (by omega)
theorem de0 {K : KX} {f : Rg} {w : World}   (hk : ∀ (f' : Rg) , True → (∀ j, j ∉ [6] → f' j = f j) → K .normal f' w) : xc Tryz.prog 33 dR0 K f w := by
 simp (maxSteps := 10000000) only [tt, Go.Cx.xc, Go.Cx.xl, Go.Cx.xOp, Go.Cv.cg0, Go.Cv.cOp, seval, dR0, ]
 exact hk _ trivial (fun j hj => by simp only [List.mem_cons, List.not_mem_nil, or_false] at hj; simp only [upd, hj, if_false])
theorem de1 {K : KX} {f : Rg} {w : World} {b n cap i j : Nat} (h0 : f 0 = .c (.v (.slice (some ⟨b, 0, none⟩) n cap))) (h1 : f 1 = .c (.v (.int .i64 (i : Nat)))) (h2 : f 2 = .c (.v (.int .i64 (j : Nat)))) (hij : i < j) (hj : j ≤ n) (hn : n ≤ cap) (hk : ∀ (f' : Rg) , True → (∀ j, j ∉ [8, 9, 10, 11, 12, 13] → f' j = f j) → K .normal f' w) : xc Tryz.prog 33 dR1 K f w := by
 simp (maxSteps := 10000000) only [tt, Go.Cx.xc, Go.Cx.xl, Go.Cx.xOp, Go.Cv.cg0, Go.Cv.cOp, seval, dR1, h0, h1, h2]
 exact ⟨by omega, by omega, by omega, by omega, hk _ trivial (fun j hj => by simp only [List.mem_cons, List.not_mem_nil, or_false, not_or] at hj; simp only [upd, hj, if_false])⟩
theorem de2 {K : KX} {f : Rg} {w : World} {i j : Nat} (h1 : f 1 = .c (.v (.int .i64 (i : Nat)))) (h2 : f 2 = .c (.v (.int .i64 (j : Nat)))) (hij : i < j) (hk : ∀ (f' : Rg) , f' 16 = .c (.v (.bool false)) → (∀ j, j ∉ [14, 15, 16] → f' j = f j) → K .normal f' w) : xc Tryz.prog 33 dR2 K f w := by
 simp (maxSteps := 10000000) only [tt, Go.Cx.xc, Go.Cx.xl, Go.Cx.xOp, Go.Cv.cg0, Go.Cv.cOp, seval, dR2, h1, h2]
 have e : decide ((i : Int) = (j : Int)) = false := decide_eq_false (by omega)
 rw [e]
 exact hk _ rfl (fun j hj => by simp only [List.mem_cons, List.not_mem_nil, or_false, not_or] at hj; simp only [upd, hj, if_false])
theorem de4 {K : KX} {f : Rg} {w : World} {b n cap : Nat} (h0 : f 0 = .c (.v (.slice (some ⟨b, 0, none⟩) n cap))) (hk : ∀ (f' : Rg) , f' 7 = .c (.v (.int .i64 (n : Nat))) → (∀ j, j ∉ [18, 19, 7] → f' j = f j) → K .normal f' w) : xc Tryz.prog 33 dR4 K f w := by
 simp (maxSteps := 10000000) only [tt, Go.Cx.xc, Go.Cx.xl, Go.Cx.xOp, Go.Cv.cg0, Go.Cv.cOp, seval, dR4, h0]
 exact hk _ rfl (fun j hj => by simp only [List.mem_cons, List.not_mem_nil, or_false, not_or] at hj; simp only [upd, hj, if_false])
theorem de5 {K : KX} {f : Rg} {w : World} {b n cap i j : Nat} {vs : List Value} (h0 : f 0 = .c (.v (.slice (some ⟨b, 0, none⟩) n cap))) (h1 : f 1 = .c (.v (.int .i64 (i : Nat)))) (h2 : f 2 = .c (.v (.int .i64 (j : Nat)))) (hij : i < j) (hj : j ≤ n) (hS : TkS w b cap n vs) (hv : ∀ v, v ∈ vs → v.oneCell' = true) (hn : n ≤ 1048576) (hk : ∀ (f' : Rg) (w' : World) , f' 0 = .c (.v (.slice (some ⟨b, 0, none⟩) (i + (n - j)) cap)) ∧ TkS w' b cap (i + (n - j)) (vs.take (i * 3) ++ vs.drop (j * 3)) ∧ ChL [b] w w' → (∀ j, j ∉ [20, 21, 22, 23, 24, 25, 26, 0] → f' j = f j) → K .normal f' w') : xc Tryz.prog 33 dR5 K f w := by
 simp (maxSteps := 10000000) only [Go.Cx.xc, seval, dR5]
 obtain ⟨cur, t, fz, hh, hlh, hc, hvl, hnc, hcm, hcap⟩ := hS
 refine ⟨follows_mixed, ⟨by kernel_rfl, (pln [0, 2, 4, 6, 8, 10, 13, 14]), by kernel_rfl, fun w1 hw1 => ?_⟩⟩
 have g1 : Gr w w1 := by rw [hw1]; exact ⟨Nat.le_refl _, fun _ _ => rfl, rfl, rfl, rfl⟩
 have hh1 : w1.heap[b]? = some (.cells cur t fz) := by rw [hw1]; exact hh
 have hc1 : Cells w1 b 0 vs := by rw [hw1]; exact hc
 have hs1 : sliced (some ⟨b, 0, none⟩) 0 i cap 3 = .slice (some ⟨b, 0, none⟩) i cap := by
  unfold sliced
  rw [if_neg (by omega)]
  simp [Addr.add_lit]
 obtain ⟨a2, hs2, ha2⟩ : ∃ a2, sliced (some ⟨b, 0, none⟩) j n cap 3 = .slice a2 (n - j) (cap - j) ∧ (n - j = 0 ∨ a2 = some ⟨b, j * 3, none⟩) := by
  unfold sliced
  by_cases h : cap = j
  ·rw [if_pos h]; exact ⟨_, rfl, .inl (by omega)⟩
  ·rw [if_neg h]; exact ⟨_, rfl, .inr (by simp [Addr.add_lit])⟩
 simp (maxSteps := 10000000) only [tt, Go.Cx.xOp, Go.Cx.xPlan, pln, Go.Cv.cg0, Go.Cv.cOp, seval, h0, h1, h2, hs1, hs2]
 refine ⟨by omega, by omega, by omega, by omega, by omega, ?_⟩
 have he : Go.Vc.elemS Tryz.prog 31 = some (61, 3, 32) := by kernel_rfl
 have hU : Program.underlying Tryz.prog 31 = some (.slice 61) := by kernel_rfl
 have e1 : (vs.take (i * 3)).length = i * 3 := by rw [List.length_take, hvl]; omega
 have e2 : (vs.drop (j * 3)).length = (n - j) * 3 := by rw [List.length_drop, hvl]; omega
 unfold xAppend
 rw [he, hU]
 refine ⟨by decide, by kernel_rfl, vs.take (i * 3), vs.drop (j * 3), ⟨e1, .inr ⟨b, 0, rfl, fun k v hk => ?_⟩⟩, ⟨e2, ha2.imp id fun e => ⟨b, j * 3, e, fun k v hk => ?_⟩⟩, fun v hv' => hv v (List.mem_of_mem_drop hv'), fun hle => ?_, fun hlt => by omega⟩
 ·refine hc1 k v ?_
  rw [List.getElem?_take] at hk
  split at hk
  ·exact hk
  ·cases hk
 ·rw [List.getElem?_drop] at hk
  have := hc1 _ v hk
  rw [Nat.zero_add] at this
  exact this
 ·have hp : Cells w1 b 0 (vs.take (i * 3)) := fun k v hk => by
   refine hc1 k v ?_
   rw [List.getElem?_take] at hk
   split at hk
   ·exact hk
   ·cases hk
  obtain ⟨g2, hc2, cur', hh2, hs2'⟩ := put_end (vy := vs.drop (j * 3)) hh1 hp (by rw [e1, e2]; omega) _ rfl
  rw [e1] at g2 hc2 hh2
  refine ⟨b, cur, t, fz, rfl, hh1, hlh, by rw [e2]; omega, _, rfl, Stp.go ?_⟩
  simp (maxSteps := 10000000) only [tt, seval]
  exact hk _ _ ⟨rfl, ⟨cur', t, fz, hh2, by rw [hs2']; exact hlh, hc2, by rw [List.length_append, e1, e2]; omega, by omega, hcm, by rw [hs2']; exact hcap⟩, (g1.chl [b]).trans g2⟩ (fun j hj => by simp only [List.mem_cons, List.not_mem_nil, or_false, not_or] at hj; simp only [upd, hj, if_false])
theorem de6 {K : KX} {f : Rg} {w : World} {b n cap m : Nat} {vs : List Value} (h0 : f 0 = .c (.v (.slice (some ⟨b, 0, none⟩) n cap))) (h7 : f 7 = .c (.v (.int .i64 (m : Nat)))) (hnm : n < m) (hm : m ≤ cap) (hS : TkS w b cap n vs) (hk : ∀ (f' : Rg) (w' : World) , TkS w' b cap n vs ∧ ChL [b] w w' → (∀ j, j ∉ [27, 28, 29, 30, 31] → f' j = f j) → K .normal f' w') : xc Tryz.prog 33 dR6 K f w := by
 obtain ⟨cur, t, fz, hh, hlh, hc, hvl, hnc, hcm, hcap⟩ := hS
 have hs1 : sliced (some ⟨b, 0, none⟩) n m cap 3 = .slice (some ⟨b, n * 3, none⟩) (m - n) (cap - n) := by
  unfold sliced
  rw [if_neg (by omega)]
  simp [Addr.add_lit]
 simp (maxSteps := 10000000) only [tt, Go.Cx.xc, Go.Cx.xl, Go.Cx.xOp, Go.Cv.cg0, Go.Cv.cOp, seval, dR6, h0, h7, hs1]
 refine ⟨by omega, by omega, by omega, ?_⟩
 have he : Go.Vc.elemS Tryz.prog 31 = some (61, 3, 32) := by kernel_rfl
 unfold xClear
 rw [he]
 refine ⟨fun h => by omega, fun _ => ⟨⟨_, rfl, by decide⟩, b, n * 3, cur, t, fz, rfl, hh, hlh, by omega, fun zs w' hz hw => Stp.go ?_⟩⟩
 obtain ⟨g2, hc2, cur', hh2, hs2'⟩ := put_end (vy := zs) hh hc (by rw [hvl, hz]; omega) w' (by rw [hvl]; exact hw)
 simp (maxSteps := 10000000) only [tt, seval]
 exact hk _ _ ⟨⟨cur', t, fz, hh2, by rw [hs2']; exact hlh, fun k v hk => hc2 k v (by rw [List.getElem?_append_left (List.getElem?_eq_some_iff.1 hk).1]; exact hk), hvl, hnc, hcm, by rw [hs2']; exact hcap⟩, g2⟩ (fun j hj => by simp only [List.mem_cons, List.not_mem_nil, or_false, not_or] at hj; simp only [upd, hj, if_false])
theorem de7 {K : KX} {f : Rg} {w : World} {b n cap : Nat} (h0 : f 0 = .c (.v (.slice (some ⟨b, 0, none⟩) n cap))) (hk : ∀ (f' : Rg) , f' 6 = .c (.v (.slice (some ⟨b, 0, none⟩) n cap)) → (∀ j, j ∉ [32, 6] → f' j = f j) → K .normal f' w) : xc Tryz.prog 33 dR7 K f w := by
 simp (maxSteps := 10000000) only [tt, Go.Cx.xc, Go.Cx.xl, Go.Cx.xOp, Go.Cv.cg0, Go.Cv.cOp, seval, dR7, h0]
 exact hk _ rfl (fun j hj => by simp only [List.mem_cons, List.not_mem_nil, or_false, not_or] at hj; simp only [upd, hj, if_false])
theorem tok_okV {w : World} : ∀ {L : List Tok} {vs : List Value} {F : List Nat}, ValsF w (L.flatMap Tok.row) vs F → F = [] ∧ ∀ t, t ∈ L → t.text.size ≤ maxLen
 | [], [], _, h => ⟨h, fun _ h => absurd h (by simp)⟩
 | [], _ :: _, _, h => h.elim
 | ⟨k, x, a⟩ :: L, vs, F, h => by
  have h : ValsF w (.lit (.int .i64 k) :: .lit (.string x) :: .lit (.int .i64 a) :: L.flatMap Tok.row) vs F := h
  obtain ⟨v1, r1, F1, R1, rfl, h1, k1, rfl⟩ := vals_cons h
  obtain ⟨v2, r2, F2, R2, rfl, h2, k2, rfl⟩ := vals_cons k1
  obtain ⟨v3, r3, F3, R3, rfl, h3, k3, rfl⟩ := vals_cons k2
  obtain ⟨rfl, rfl, _⟩ := h1
  obtain ⟨rfl, rfl, h5⟩ := h2
  obtain ⟨rfl, rfl, _⟩ := h3
  obtain ⟨rfl, h4⟩ := tok_okV k3
  refine ⟨rfl, fun t ht => ?_⟩
  rcases List.mem_cons.1 ht with rfl | ht
  ·exact h5
  ·exact h4 t ht
theorem tok_own (w : World) : ∀ {L : List Tok}, (∀ t, t ∈ L → t.text.size ≤ maxLen) → OwnT w (L.flatMap Tok.row) (L.flatMap tokV) []
 | [], _ => ⟨vals_nil_mk, List.nodup_nil, OwnL.nil _, trivial⟩
 | ⟨k, x, a⟩ :: L, h => by
  have h1 : OwnT w (Tok.row ⟨k, x, a⟩) (tokV ⟨k, x, a⟩) [] :=
   ⟨vals_cons_mk (F := []) (R := []) (lit_cell trivial) (vals_cons_mk (F := []) (R := []) (lit_cell (h ⟨k, x, a⟩ (by simp))) (vals_cons_mk (F := []) (R := []) (lit_cell trivial) vals_nil_mk)), List.nodup_nil, OwnL.nil _, ⟨trivial, trivial, trivial, trivial⟩⟩
  exact OwnT.join h1 (tok_own w fun t ht => h t (List.mem_cons_of_mem _ ht)) (by simp)
theorem tokV_len : ∀ L : List Tok, (L.flatMap tokV).length = L.length * 3
 | [] => rfl
 | t :: L => by
  rw [List.flatMap_cons, List.length_append, tokV_len L, List.length_cons, Nat.add_mul, Nat.one_mul, Nat.add_comm]; rfl
theorem tokV_one {L : List Tok} : ∀ v, v ∈ L.flatMap tokV → v.oneCell' = true := fun v hv => by
 obtain ⟨t, _, ht⟩ := List.mem_flatMap.1 hv
 simp only [tokV, List.mem_cons, List.not_mem_nil, or_false] at ht
 rcases ht with rfl | rfl | rfl <;> rfl
theorem tokV_take : ∀ (L : List Tok) (i : Nat), (L.flatMap tokV).take (i * 3) = (L.take i).flatMap tokV
 | [], i => by simp
 | t :: L, 0 => by simp
 | t :: L, i + 1 => by
  rw [List.take_succ_cons, List.flatMap_cons, List.flatMap_cons, ← tokV_take L i, List.take_append, List.take_of_length_le (by show 3 ≤ _; omega)]
  show _ ++ List.take ((i + 1) * 3 - 3) _ = _
  rw [show (i + 1) * 3 - 3 = i * 3 by omega]
theorem tokV_drop : ∀ (L : List Tok) (i : Nat), (L.flatMap tokV).drop (i * 3) = (L.drop i).flatMap tokV
 | [], i => by simp
 | t :: L, 0 => by simp
 | t :: L, i + 1 => by
  rw [List.drop_succ_cons, List.flatMap_cons, ← tokV_drop L i, List.drop_append, List.drop_of_length_le (by show 3 ≤ _; omega), List.nil_append]
  show List.drop ((i + 1) * 3 - 3) _ = _
  rw [show (i + 1) * 3 - 3 = i * 3 by omega]
theorem TkS.cell {w : World} {b cap : Nat} {L : List Tok} (h : TkS w b cap L.length (L.flatMap tokV)) (ht : ∀ t, t ∈ L → t.text.size ≤ maxLen) : ∃ F, CellF w (.sl L.length (L.flatMap Tok.row)) (.slice (some ⟨b, 0, none⟩) L.length cap) F ∧ ∀ x, x ∈ F → x = b := by
 obtain ⟨cur, t, fz, hh, hlh, hc, hvl, hnc, hcm, hcap⟩ := h
 by_cases e : L = []
 ·subst e
  exact ⟨[], ⟨_, cap, rfl, hnc, hcm, (fun e => by cases e), .inl ⟨rfl, rfl⟩⟩, by simp⟩
 ·refine ⟨[b], ⟨_, cap, rfl, hnc, hcm, (fun e => by cases e), .inr ⟨fun e' => e ?_, b, 0, [], rfl, (tok_own w ht).val.row fun j v hj => by simpa using hc j v hj, rfl⟩⟩, by simp⟩
  have := congrArg List.length e'
  rw [flatMap_len Tok.row_len] at this
  exact List.eq_nil_of_length_eq_zero (by simp only [List.length_nil] at this; omega)
theorem TkS.own {w : World} {b cap : Nat} {L : List Tok} (h : TkS w b cap L.length (L.flatMap tokV)) (ht : ∀ t, t ∈ L → t.text.size ≤ maxLen) (hz : L = [] → cap = 0) : ∃ F, OwnT w [.sl L.length (L.flatMap Tok.row)] [.slice (some ⟨b, 0, none⟩) L.length cap] F ∧ ∀ x, x ∈ F → x = b := by
 obtain ⟨cur, t, fz, hh, hlh, hc, hvl, hnc, hcm, hcap⟩ := h
 by_cases e : L = []
 ·obtain rfl := hz e
  subst e
  exact ⟨[], ⟨⟨[], [], ⟨_, 0, rfl, Nat.le_refl _, by simp [maxLen], fun _ => rfl, .inl ⟨rfl, rfl⟩⟩, rfl, rfl⟩, List.nodup_nil, OwnL.nil _, ⟨_, 0, rfl, fun _ => rfl, .inl rfl⟩, trivial⟩, by simp⟩
 ·refine ⟨[b], (tok_own w ht).outof (sz := 3) (by simp) hc hh hlh hnc hcm (flatMap_len Tok.row_len L) hcap (fun e' => e ?_), by simp⟩
  have := congrArg List.length e'
  rw [flatMap_len Tok.row_len] at this
  exact List.eq_nil_of_length_eq_zero (by simp only [List.length_nil] at this; omega)
theorem tok_in {w : World} {L : List Tok} {v : Value} {G : List Nat} (h : CellF w (.sl L.length (L.flatMap Tok.row)) v G) : ∃ a cap, v = .slice a L.length cap ∧ Rd w 3 a L.length (L.flatMap tokV) ∧ ∀ t, t ∈ L → t.text.size ≤ maxLen := by
 obtain ⟨a, cap, rfl, _, _, _, ⟨e, _⟩ | ⟨_, b, o, F, rfl, hr, _⟩⟩ := h
 ·have hl : L = [] := by
   have := congrArg List.length e
   rw [flatMap_len Tok.row_len] at this
   exact List.eq_nil_of_length_eq_zero (by simp only [List.length_nil] at this; omega)
  subst hl
  exact ⟨a, cap, rfl, ⟨rfl, .inl rfl⟩, fun _ h => absurd h (by simp)⟩
 ·obtain ⟨vs, hc, hv⟩ := hr.vals
  have ht := (tok_okV hv).2
  obtain rfl := tok_vals hv
  exact ⟨_, cap, rfl, ⟨tokV_len L, .inr ⟨b, o, rfl, fun i v hi => hc i v hi⟩⟩, ht⟩
theorem clone_raw {w : World} {L : List Tok} {v : Value} {G : List Nat} (h : CellF w (.sl L.length (L.flatMap Tok.row)) v G) (hL : L.length ≤ 1048576) :
 Calls Tryz.prog 69 #[v] w fun e w' => ∃ r, e = .returned r ∧ (∃ F, OwnT w' [.sl L.length (L.flatMap Tok.row)] [r] F ∧ ∀ x, x ∈ F → w.heap.size ≤ x) ∧ (L ≠ [] → ∃ b cap, r = .slice (some ⟨b, 0, none⟩) L.length cap ∧ w.heap.size ≤ b ∧ TkS w' b cap L.length (L.flatMap tokV)) ∧ Gr w w' := by
 obtain ⟨a, cap, rfl, hrd, ht⟩ := tok_in h
 refine @calls_of_y _ w 69 Tryz.f69 _ [.slice a L.length cap] _ Tryz.func69 cR_body (Nat.le_of_ble_eq_true rfl) ?_
 rw [show Tryz.f69.ntmps = 8 by kernel_rfl, show Tryz.f69.results.toList = [Go.ResultVar.tmp 2] by kernel_rfl]
 have q0 : regsV [.slice a L.length cap] 0 = .c (.v (.slice a L.length cap)) := rfl
 generalize regsV [.slice a L.length cap] = g0 at q0
 refine x_seq (cl0 fun f1 _ k1 => sq_n (x_seq (x_seq ?_)))
 have q0 := (k1 0 (by decide)).trans q0
 refine cl1 q0 fun f2 q4 k2 => sq_n (x_cond q4 (fun hn => x_seq (cl2 fun f3 q2 _ => sq_n (sq_r (x_ret q2 ?_)))) (fun hn => x_skip (sq_n (x_seq ?_))))
 ·have hl : L = [] := by
   rcases hrd.2 with e | ⟨b, o, e, _⟩
   ·exact List.eq_nil_of_length_eq_zero e
   ·rw [e] at hn; cases hn
  subst hl
  exact ⟨⟨[], ⟨⟨[], [], ⟨_, 0, rfl, Nat.le_refl _, by simp [maxLen], fun _ => rfl, .inl ⟨rfl, rfl⟩⟩, rfl, rfl⟩, List.nodup_nil, OwnL.nil _, ⟨_, 0, rfl, fun _ => rfl, .inl rfl⟩, trivial⟩, by simp⟩, fun h => absurd rfl h, ⟨Nat.le_refl _, fun _ _ => rfl, rfl, rfl, rfl⟩⟩
 ·have q0 := (k2 0 (by decide)).trans q0
  refine cl3 q0 hrd tokV_one hL fun f3 w3 ⟨⟨b, cap3, q2, hb, hz, hS⟩, g3⟩ k3 => sq_n (x_ret q2 ?_)
  obtain ⟨F, hO, hF⟩ := hS.own ht (fun e => hz (by rw [e]; rfl))
  exact ⟨⟨F, hO, fun x hx => by rw [hF x hx]; exact hb⟩, fun _ => ⟨b, cap3, rfl, hb, hS⟩, g3⟩
theorem del_raw {w : World} {b cap i j : Nat} {L : List Tok} (hS : TkS w b cap L.length (L.flatMap tokV)) (hij : i < j) (hj : j ≤ L.length) (hL : L.length ≤ 1048576) :
 Calls Tryz.prog 70 #[.slice (some ⟨b, 0, none⟩) L.length cap, .int .i64 (i : Nat), .int .i64 (j : Nat)] w fun e w' => ∃ r, e = .returned r ∧ r = .slice (some ⟨b, 0, none⟩) (L.take i ++ L.drop j).length cap ∧ TkS w' b cap (L.take i ++ L.drop j).length ((L.take i ++ L.drop j).flatMap tokV) ∧ ChL [b] w w' := by
 refine @calls_of_y _ w 70 Tryz.f70 _ [.slice (some ⟨b, 0, none⟩) L.length cap, .int .i64 (i : Nat), .int .i64 (j : Nat)] _ Tryz.func70 dR_body (Nat.le_of_ble_eq_true rfl) ?_
 rw [show Tryz.f70.ntmps = 33 by kernel_rfl, show Tryz.f70.results.toList = [Go.ResultVar.tmp 6] by kernel_rfl]
 obtain ⟨q0, q1, q2⟩ : regsV [.slice (some ⟨b, 0, none⟩) L.length cap, .int .i64 (i : Nat), .int .i64 (j : Nat)] 0 = .c (.v (.slice (some ⟨b, 0, none⟩) L.length cap)) ∧ regsV [.slice (some ⟨b, 0, none⟩) L.length cap, .int .i64 (i : Nat), .int .i64 (j : Nat)] 1 = .c (.v (.int .i64 (i : Nat))) ∧ regsV [.slice (some ⟨b, 0, none⟩) L.length cap, .int .i64 (i : Nat), .int .i64 (j : Nat)] 2 = .c (.v (.int .i64 (j : Nat))) := ⟨rfl, rfl, rfl⟩
 generalize regsV [.slice (some ⟨b, 0, none⟩) L.length cap, .int .i64 (i : Nat), .int .i64 (j : Nat)] = g0 at q0 q1 q2
 have hc : L.length ≤ cap := by obtain ⟨_, _, _, _, _, _, _, h, _⟩ := hS; exact h
 refine x_seq (de0 fun f1 _ k1 => sq_n (x_seq ?_))
 have q0 := (k1 0 (by decide)).trans q0
 have q1 := (k1 1 (by decide)).trans q1
 have q2 := (k1 2 (by decide)).trans q2
 refine de1 q0 q1 q2 hij hj hc fun f2 _ k2 => sq_n (x_seq (x_seq ?_))
 have q0 := (k2 0 (by decide)).trans q0
 have q1 := (k2 1 (by decide)).trans q1
 have q2 := (k2 2 (by decide)).trans q2
 refine de2 q1 q2 hij fun f3 q16 k3 => sq_n (x_cond q16 (fun h => by cases h) (fun _ => x_skip (sq_n (x_seq ?_))))
 have q0 := (k3 0 (by decide)).trans q0
 have q1 := (k3 1 (by decide)).trans q1
 have q2 := (k3 2 (by decide)).trans q2
 refine de4 q0 fun f4 q7 k4 => sq_n (x_seq ?_)
 have q0 := (k4 0 (by decide)).trans q0
 have q1 := (k4 1 (by decide)).trans q1
 have q2 := (k4 2 (by decide)).trans q2
 refine de5 q0 q1 q2 hij hj hS tokV_one hL fun f5 w5 ⟨p0, hS5, g5⟩ k5 => sq_n (x_seq ?_)
 have q7 := (k5 7 (by decide)).trans q7
 have e : i + (L.length - j) = (L.take i ++ L.drop j).length := by rw [List.length_append, List.length_take, List.length_drop]; omega
 rw [e, tokV_take, tokV_drop, ← List.flatMap_append] at hS5
 rw [e] at p0
 refine de6 p0 q7 (by rw [← e]; omega) hc hS5 fun f6 w6 ⟨hS6, g6⟩ k6 => sq_n (x_seq ?_)
 have p0 := (k6 0 (by decide)).trans p0
 refine de7 p0 fun f7 q6 k7 => sq_n (x_ret q6 ?_)
 exact ⟨rfl, hS6, g5.trans g6⟩
def delAt (L : List Tok) (i : Nat) : List Tok := L.take i ++ L.drop (i + 1)
def woP (L : List Tok) (k : Int) : List Tok := if h : 0 ≤ k then (if h2 : k.toNat < (prs L).length then delAt (delAt L (prs L)[k.toNat].2) (prs L)[k.toNat].1 else L) else L
def wR0 : Go.Code := Go.Code.region 0 #[{ dst := Option.some 4, op := Go.Op.assign (Go.Operand.const (Go.Value.slice Option.none 0 0)), type := 31, pos := "l14_pairs.go:35", after := #[], guard := Option.none }] Bool.false
def wR1 : Go.Code := Go.Code.region 1 #[{ dst := Option.some 7, op := Go.Op.move (Go.Operand.tmp 0), type := 31, pos := "l14_pairs.go:36", after := #[], guard := Option.none }, { dst := Option.some 8, op := Go.Op.call { callee := Go.Callee.value (Go.Operand.func 12), args := #[Go.Operand.tmp 7], argTypes := #[31] }, type := 33, pos := "l14_pairs.go:36", after := #[{ on := 0, ground := Go.Ground.data }], guard := Option.none }, { dst := Option.some 5, op := Go.Op.assign (Go.Operand.tmp 8), type := 33, pos := "l14_pairs.go:36", after := #[{ on := 1, ground := Go.Ground.data }, { on := 1, ground := Go.Ground.chain }, { on := 0, ground := Go.Ground.phase }, { on := 1, ground := Go.Ground.phase }], guard := Option.none }] Bool.false
def wR2 : Go.Code := Go.Code.region 2 #[{ dst := Option.some 9, op := Go.Op.move (Go.Operand.tmp 0), type := 31, pos := "l14_pairs.go:37", after := #[], guard := Option.none }, { dst := Option.some 10, op := Go.Op.call { callee := Go.Callee.value (Go.Operand.func 69), args := #[Go.Operand.tmp 9], argTypes := #[31] }, type := 31, pos := "l14_pairs.go:37", after := #[{ on := 0, ground := Go.Ground.data }], guard := Option.none }, { dst := Option.some 6, op := Go.Op.assign (Go.Operand.tmp 10), type := 31, pos := "l14_pairs.go:37", after := #[{ on := 1, ground := Go.Ground.data }, { on := 1, ground := Go.Ground.chain }, { on := 0, ground := Go.Ground.phase }, { on := 1, ground := Go.Ground.phase }], guard := Option.none }] Bool.false
def wR3 : Go.Code := Go.Code.region 3 #[{ dst := Option.some 11, op := Go.Op.move (Go.Operand.tmp 1), type := 3, pos := "l14_pairs.go:38", after := #[], guard := Option.none }, { dst := Option.some 12, op := Go.Op.binOp Go.BinOp.lss 3 (Go.Operand.tmp 11) (Go.Operand.const (Go.Value.int Go.IntKind.i64 0)) 3, type := 4, pos := "l14_pairs.go:38", after := #[{ on := 0, ground := Go.Ground.data }], guard := Option.none }, { dst := Option.some 13, op := Go.Op.move (Go.Operand.tmp 12), type := 4, pos := "l14_pairs.go:38", after := #[{ on := 1, ground := Go.Ground.data }], guard := Option.none }, { dst := Option.some 14, op := Go.Op.move (Go.Operand.tmp 1), type := 3, pos := "l14_pairs.go:38", after := #[{ on := 2, ground := Go.Ground.guard }], guard := Option.some (2, Bool.false) }, { dst := Option.some 15, op := Go.Op.move (Go.Operand.tmp 5), type := 33, pos := "l14_pairs.go:38", after := #[{ on := 2, ground := Go.Ground.guard }], guard := Option.some (2, Bool.false) }, { dst := Option.some 16, op := Go.Op.call { callee := Go.Callee.builtin Go.Builtin.len, args := #[Go.Operand.tmp 15], argTypes := #[33] }, type := 3, pos := "l14_pairs.go:38", after := #[{ on := 4, ground := Go.Ground.data }, { on := 2, ground := Go.Ground.guard }], guard := Option.some (2, Bool.false) }, { dst := Option.some 17, op := Go.Op.binOp Go.BinOp.geq 3 (Go.Operand.tmp 14) (Go.Operand.tmp 16) 3, type := 4, pos := "l14_pairs.go:38", after := #[{ on := 3, ground := Go.Ground.data }, { on := 5, ground := Go.Ground.data }, { on := 2, ground := Go.Ground.guard }], guard := Option.some (2, Bool.false) }, { dst := Option.some 18, op := Go.Op.pick (Go.Operand.tmp 13) (Go.Operand.const (Go.Value.bool Bool.true)) (Go.Operand.tmp 17), type := 4, pos := "l14_pairs.go:38", after := #[{ on := 2, ground := Go.Ground.data }, { on := 6, ground := Go.Ground.data }], guard := Option.none }] Bool.false
def wR4 : Go.Code := Go.Code.region 4 #[{ dst := Option.some 19, op := Go.Op.move (Go.Operand.tmp 6), type := 31, pos := "l14_pairs.go:39", after := #[], guard := Option.none }, { dst := Option.some 4, op := Go.Op.assign (Go.Operand.tmp 19), type := 31, pos := "l14_pairs.go:39", after := #[{ on := 0, ground := Go.Ground.data }, { on := 0, ground := Go.Ground.phase }], guard := Option.none }] Bool.false
def wR5 : Go.Code := Go.Code.region 5 #[{ dst := Option.some 20, op := Go.Op.move (Go.Operand.tmp 6), type := 31, pos := "l14_pairs.go:41", after := #[], guard := Option.none }, { dst := Option.some 21, op := Go.Op.move (Go.Operand.tmp 5), type := 33, pos := "l14_pairs.go:41", after := #[], guard := Option.none }, { dst := Option.some 22, op := Go.Op.move (Go.Operand.tmp 1), type := 3, pos := "l14_pairs.go:41", after := #[], guard := Option.none }, { dst := Option.some 23, op := Go.Op.indexAddr 33 (Go.Operand.tmp 21) (Go.Operand.tmp 22), type := 0, pos := "l14_pairs.go:41", after := #[{ on := 1, ground := Go.Ground.data }, { on := 2, ground := Go.Ground.data }], guard := Option.none }, { dst := Option.some 24, op := Go.Op.load 45 (Go.Operand.tmp 23), type := 45, pos := "l14_pairs.go:41", after := #[{ on := 3, ground := Go.Ground.data }], guard := Option.none }, { dst := Option.some 25, op := Go.Op.indexAddr 45 (Go.Operand.tmp 24) (Go.Operand.const (Go.Value.int Go.IntKind.i64 1)), type := 0, pos := "l14_pairs.go:41", after := #[{ on := 4, ground := Go.Ground.data }], guard := Option.none }, { dst := Option.some 26, op := Go.Op.load 3 (Go.Operand.tmp 25), type := 3, pos := "l14_pairs.go:41", after := #[{ on := 5, ground := Go.Ground.data }], guard := Option.none }, { dst := Option.some 27, op := Go.Op.move (Go.Operand.tmp 5), type := 33, pos := "l14_pairs.go:41", after := #[], guard := Option.none }, { dst := Option.some 28, op := Go.Op.move (Go.Operand.tmp 1), type := 3, pos := "l14_pairs.go:41", after := #[], guard := Option.none }, { dst := Option.some 29, op := Go.Op.indexAddr 33 (Go.Operand.tmp 27) (Go.Operand.tmp 28), type := 0, pos := "l14_pairs.go:41", after := #[{ on := 7, ground := Go.Ground.data }, { on := 8, ground := Go.Ground.data }], guard := Option.none }, { dst := Option.some 30, op := Go.Op.load 45 (Go.Operand.tmp 29), type := 45, pos := "l14_pairs.go:41", after := #[{ on := 9, ground := Go.Ground.data }], guard := Option.none }, { dst := Option.some 31, op := Go.Op.indexAddr 45 (Go.Operand.tmp 30) (Go.Operand.const (Go.Value.int Go.IntKind.i64 1)), type := 0, pos := "l14_pairs.go:41", after := #[{ on := 10, ground := Go.Ground.data }], guard := Option.none }, { dst := Option.some 32, op := Go.Op.load 3 (Go.Operand.tmp 31), type := 3, pos := "l14_pairs.go:41", after := #[{ on := 11, ground := Go.Ground.data }], guard := Option.none }, { dst := Option.some 33, op := Go.Op.binOp Go.BinOp.add 3 (Go.Operand.tmp 32) (Go.Operand.const (Go.Value.int Go.IntKind.i64 1)) 3, type := 3, pos := "l14_pairs.go:41", after := #[{ on := 12, ground := Go.Ground.data }], guard := Option.none }, { dst := Option.some 34, op := Go.Op.call { callee := Go.Callee.value (Go.Operand.func 70), args := #[Go.Operand.tmp 20, Go.Operand.tmp 26, Go.Operand.tmp 33], argTypes := #[31, 3, 3] }, type := 31, pos := "l14_pairs.go:41", after := #[{ on := 0, ground := Go.Ground.data }, { on := 6, ground := Go.Ground.data }, { on := 13, ground := Go.Ground.data }], guard := Option.none }, { dst := Option.some 6, op := Go.Op.assign (Go.Operand.tmp 34), type := 31, pos := "l14_pairs.go:41", after := #[{ on := 14, ground := Go.Ground.data }, { on := 14, ground := Go.Ground.chain }, { on := 0, ground := Go.Ground.phase }, { on := 1, ground := Go.Ground.phase }, { on := 2, ground := Go.Ground.phase }, { on := 3, ground := Go.Ground.phase }, { on := 4, ground := Go.Ground.phase }, { on := 5, ground := Go.Ground.phase }, { on := 6, ground := Go.Ground.phase }, { on := 7, ground := Go.Ground.phase }, { on := 8, ground := Go.Ground.phase }, { on := 9, ground := Go.Ground.phase }, { on := 10, ground := Go.Ground.phase }, { on := 11, ground := Go.Ground.phase }, { on := 12, ground := Go.Ground.phase }, { on := 13, ground := Go.Ground.phase }, { on := 14, ground := Go.Ground.phase }], guard := Option.none }] Bool.true
def wR6 : Go.Code := Go.Code.region 6 #[{ dst := Option.some 35, op := Go.Op.move (Go.Operand.tmp 6), type := 31, pos := "l14_pairs.go:42", after := #[], guard := Option.none }, { dst := Option.some 36, op := Go.Op.move (Go.Operand.tmp 5), type := 33, pos := "l14_pairs.go:42", after := #[], guard := Option.none }, { dst := Option.some 37, op := Go.Op.move (Go.Operand.tmp 1), type := 3, pos := "l14_pairs.go:42", after := #[], guard := Option.none }, { dst := Option.some 38, op := Go.Op.indexAddr 33 (Go.Operand.tmp 36) (Go.Operand.tmp 37), type := 0, pos := "l14_pairs.go:42", after := #[{ on := 1, ground := Go.Ground.data }, { on := 2, ground := Go.Ground.data }], guard := Option.none }, { dst := Option.some 39, op := Go.Op.load 45 (Go.Operand.tmp 38), type := 45, pos := "l14_pairs.go:42", after := #[{ on := 3, ground := Go.Ground.data }], guard := Option.none }, { dst := Option.some 40, op := Go.Op.indexAddr 45 (Go.Operand.tmp 39) (Go.Operand.const (Go.Value.int Go.IntKind.i64 0)), type := 0, pos := "l14_pairs.go:42", after := #[{ on := 4, ground := Go.Ground.data }], guard := Option.none }, { dst := Option.some 41, op := Go.Op.load 3 (Go.Operand.tmp 40), type := 3, pos := "l14_pairs.go:42", after := #[{ on := 5, ground := Go.Ground.data }], guard := Option.none }, { dst := Option.some 42, op := Go.Op.move (Go.Operand.tmp 5), type := 33, pos := "l14_pairs.go:42", after := #[], guard := Option.none }, { dst := Option.some 43, op := Go.Op.move (Go.Operand.tmp 1), type := 3, pos := "l14_pairs.go:42", after := #[], guard := Option.none }, { dst := Option.some 44, op := Go.Op.indexAddr 33 (Go.Operand.tmp 42) (Go.Operand.tmp 43), type := 0, pos := "l14_pairs.go:42", after := #[{ on := 7, ground := Go.Ground.data }, { on := 8, ground := Go.Ground.data }], guard := Option.none }, { dst := Option.some 45, op := Go.Op.load 45 (Go.Operand.tmp 44), type := 45, pos := "l14_pairs.go:42", after := #[{ on := 9, ground := Go.Ground.data }], guard := Option.none }, { dst := Option.some 46, op := Go.Op.indexAddr 45 (Go.Operand.tmp 45) (Go.Operand.const (Go.Value.int Go.IntKind.i64 0)), type := 0, pos := "l14_pairs.go:42", after := #[{ on := 10, ground := Go.Ground.data }], guard := Option.none }, { dst := Option.some 47, op := Go.Op.load 3 (Go.Operand.tmp 46), type := 3, pos := "l14_pairs.go:42", after := #[{ on := 11, ground := Go.Ground.data }], guard := Option.none }, { dst := Option.some 48, op := Go.Op.binOp Go.BinOp.add 3 (Go.Operand.tmp 47) (Go.Operand.const (Go.Value.int Go.IntKind.i64 1)) 3, type := 3, pos := "l14_pairs.go:42", after := #[{ on := 12, ground := Go.Ground.data }], guard := Option.none }, { dst := Option.some 49, op := Go.Op.call { callee := Go.Callee.value (Go.Operand.func 70), args := #[Go.Operand.tmp 35, Go.Operand.tmp 41, Go.Operand.tmp 48], argTypes := #[31, 3, 3] }, type := 31, pos := "l14_pairs.go:42", after := #[{ on := 0, ground := Go.Ground.data }, { on := 6, ground := Go.Ground.data }, { on := 13, ground := Go.Ground.data }], guard := Option.none }, { dst := Option.some 4, op := Go.Op.assign (Go.Operand.tmp 49), type := 31, pos := "l14_pairs.go:42", after := #[{ on := 14, ground := Go.Ground.data }, { on := 14, ground := Go.Ground.chain }, { on := 0, ground := Go.Ground.phase }, { on := 1, ground := Go.Ground.phase }, { on := 2, ground := Go.Ground.phase }, { on := 3, ground := Go.Ground.phase }, { on := 4, ground := Go.Ground.phase }, { on := 5, ground := Go.Ground.phase }, { on := 6, ground := Go.Ground.phase }, { on := 7, ground := Go.Ground.phase }, { on := 8, ground := Go.Ground.phase }, { on := 9, ground := Go.Ground.phase }, { on := 10, ground := Go.Ground.phase }, { on := 11, ground := Go.Ground.phase }, { on := 12, ground := Go.Ground.phase }, { on := 13, ground := Go.Ground.phase }, { on := 14, ground := Go.Ground.phase }], guard := Option.none }] Bool.true
theorem wR_body : Tryz.f33.body = Option.some (wR0.seq (wR1.seq (wR2.seq ((wR3.seq (Go.Code.cond (Go.Operand.tmp 18) (wR4.seq Go.Code.ret) Go.Code.skip)).seq (wR5.seq (wR6.seq Go.Code.ret)))))) := by kernel_rfl
theorem wp0 {K : KX} {f : Rg} {w : World}   (hk : ∀ (f' : Rg) , True → (∀ j, j ∉ [4] → f' j = f j) → K .normal f' w) : xc Tryz.prog 50 wR0 K f w := by
 simp (maxSteps := 10000000) only [tt, Go.Cx.xc, Go.Cx.xl, Go.Cx.xOp, Go.Cv.cg0, Go.Cv.cOp, seval, wR0, ]
 exact hk _ trivial (fun j hj => by simp only [List.mem_cons, List.not_mem_nil, or_false] at hj; simp only [upd, hj, if_false])
theorem wp1 {K : KX} {f : Rg} {w : World} {v0 : Value} (h0 : f 0 = .c (.v v0)) {R : Value → World → Prop} (hR : Calls Tryz.prog 12 #[v0] w fun e w' => ∃ v, e = .returned v ∧ R v w') (hk : ∀ (f' : Rg) (w' : World) , (∃ v, f' 5 = .c (.v v) ∧ R v w') → (∀ j, j ∉ [7, 8, 5] → f' j = f j) → K .normal f' w') : xc Tryz.prog 50 wR1 K f w := by
 simp (maxSteps := 10000000) only [tt, Go.Cx.xc, Go.Cx.xl, Go.Cx.xOp, Go.Cx.xCall, Go.Cv.cg0, Go.Cv.cOp, Go.Cx.argsW, seval, wR1, h0]
 refine ⟨by kernel_rfl, R, hR, fun v w' hr => Stp.go ?_⟩
 simp (maxSteps := 10000000) only [tt, seval]
 exact hk _ _ ⟨v, rfl, hr⟩ (fun j hj => by simp only [List.mem_cons, List.not_mem_nil, or_false, not_or] at hj; simp only [upd, hj, if_false])
theorem wp2 {K : KX} {f : Rg} {w : World} {v0 : Value} (h0 : f 0 = .c (.v v0)) {R : Value → World → Prop} (hR : Calls Tryz.prog 69 #[v0] w fun e w' => ∃ v, e = .returned v ∧ R v w') (hk : ∀ (f' : Rg) (w' : World) , (∃ v, f' 6 = .c (.v v) ∧ R v w') → (∀ j, j ∉ [9, 10, 6] → f' j = f j) → K .normal f' w') : xc Tryz.prog 50 wR2 K f w := by
 simp (maxSteps := 10000000) only [tt, Go.Cx.xc, Go.Cx.xl, Go.Cx.xOp, Go.Cx.xCall, Go.Cv.cg0, Go.Cv.cOp, Go.Cx.argsW, seval, wR2, h0]
 refine ⟨by kernel_rfl, R, hR, fun v w' hr => Stp.go ?_⟩
 simp (maxSteps := 10000000) only [tt, seval]
 exact hk _ _ ⟨v, rfl, hr⟩ (fun j hj => by simp only [List.mem_cons, List.not_mem_nil, or_false, not_or] at hj; simp only [upd, hj, if_false])
theorem wp3n {K : KX} {f : Rg} {w : World} {k : Int} (h1 : f 1 = .c (.v (.int .i64 k))) (hn : k < 0) (hk : ∀ (f' : Rg) , f' 18 = .c (.v (.bool true)) → (∀ j, j ∉ [11, 12, 13, 14, 15, 16, 17, 18] → f' j = f j) → K .normal f' w) : xc Tryz.prog 50 wR3 K f w := by
 have e : decide (k < 0) = true := decide_eq_true hn
 simp (maxSteps := 10000000) only [tt, Go.Cx.xc, Go.Cx.xl, Go.Cx.xOp, Go.Cv.cg0, Go.Cx.cg_fn, Go.Cx.gv, Go.Cv.cOp, Go.Vc.guardSlot, seval, wR3, h1, e]
 exact hk _ rfl (fun j hj => by simp only [List.mem_cons, List.not_mem_nil, or_false, not_or] at hj; simp only [upd, hj, if_false])
theorem wp3p {K : KX} {f : Rg} {w : World} {k : Int} {a : Option Addr} {n cap : Nat} (h1 : f 1 = .c (.v (.int .i64 k))) (h5 : f 5 = .c (.v (.slice a n cap))) (hn : 0 ≤ k) (hk : ∀ (f' : Rg) , f' 18 = .c (.v (.bool (decide ((n : Nat) ≤ k)))) → (∀ j, j ∉ [11, 12, 13, 14, 15, 16, 17, 18] → f' j = f j) → K .normal f' w) : xc Tryz.prog 50 wR3 K f w := by
 have e : decide (k < 0) = false := decide_eq_false (by omega)
 simp (maxSteps := 10000000) only [tt, Go.Cx.xc, Go.Cx.xl, Go.Cx.xOp, Go.Cv.cg0, Go.Cx.cg_f, Go.Cx.gv, Go.Cv.cOp, Go.Vc.guardSlot, seval, wR3, h1, h5, e]
 exact hk _ rfl (fun j hj => by simp only [List.mem_cons, List.not_mem_nil, or_false, not_or] at hj; simp only [upd, hj, if_false])
theorem wp4 {K : KX} {f : Rg} {w : World} {vo : Value} (h6 : f 6 = .c (.v vo)) (hk : ∀ (f' : Rg) , f' 4 = .c (.v vo) → (∀ j, j ∉ [19, 4] → f' j = f j) → K .normal f' w) : xc Tryz.prog 50 wR4 K f w := by
 simp (maxSteps := 10000000) only [tt, Go.Cx.xc, Go.Cx.xl, Go.Cx.xOp, Go.Cv.cg0, Go.Cv.cOp, seval, wR4, h6]
 exact hk _ rfl (fun j hj => by simp only [List.mem_cons, List.not_mem_nil, or_false, not_or] at hj; simp only [upd, hj, if_false])
theorem wp5 {K : KX} {f : Rg} {w : World} {vo : Value} {pb n pc k qb qc i : Nat} (h6 : f 6 = .c (.v vo)) (h5 : f 5 = .c (.v (.slice (some ⟨pb, 0, none⟩) n pc))) (h1 : f 1 = .c (.v (.int .i64 (k : Nat)))) (hkn : k < n) (c0 : w.cell? ⟨pb, k, none⟩ = some (.slice (some ⟨qb, 0, none⟩) 2 qc)) (c1 : w.cell? ⟨qb, 1, none⟩ = some (.int .i64 (i : Nat))) (hi : i ≤ 1048576) {R : Value → World → Prop} (hR : Calls Tryz.prog 70 #[vo, .int .i64 (i : Nat), .int .i64 (i + 1 : Nat)] w.drew fun e w' => ∃ v, e = .returned v ∧ R v w') (hk : ∀ (f' : Rg) (w' : World) , (∃ v, f' 6 = .c (.v v) ∧ R v w') → (∀ j, j ∉ [20, 21, 22, 23, 24, 25, 26, 27, 28, 29, 30, 31, 32, 33, 34, 6] → f' j = f j) → K .normal f' w') : xc Tryz.prog 50 wR5 K f w := by
 have hw : IntKind.i64.wrap ((i : Int) + 1) = ((i + 1 : Nat) : Int) := by rw [wrS i (by omega)]; omega
 simp (maxSteps := 10000000) only [Go.Cx.xc, seval, wR5]
 refine ⟨follows_mixed, ⟨by kernel_rfl, (pln [0, 2, 4, 6, 8, 10, 12, 14, 16, 18, 20, 22, 24, 26, 29, 30]), by kernel_rfl, fun w1 hw1 => ?_⟩⟩
 have d0 : w1.cell? ⟨pb, k, none⟩ = some (.slice (some ⟨qb, 0, none⟩) 2 qc) := by rw [hw1]; exact c0
 have d1 : w1.cell? ⟨qb, 1, none⟩ = some (.int .i64 (i : Nat)) := by rw [hw1]; exact c1
 have cL0 : ∀ d T K f, cLoad Tryz.prog 50 d T ⟨pb, k, none⟩ K f w1 = (Go.Vc.tyS Tryz.prog T = .one ∧ K (put 50 f d (.c (.v (.slice (some ⟨qb, 0, none⟩) 2 qc)))) w1) := fun _ _ _ _ => cLoad_go d0
 have cL1 : ∀ d T K f, cLoad Tryz.prog 50 d T ⟨qb, 1, none⟩ K f w1 = (Go.Vc.tyS Tryz.prog T = .one ∧ K (put 50 f d (.c (.v (.int .i64 (i : Nat))))) w1) := fun _ _ _ _ => cLoad_go d1
 simp (maxSteps := 10000000) only [tt, Go.Cx.xOp, Go.Cx.xCall, Go.Cx.xPlan, pln, Go.Cv.cg0, Go.Cv.cOp, Go.Cx.argsW, seval, h6, h5, h1, hw, cL0, cL1, Nat.zero_add, Nat.mul_one]
 exact ⟨by omega, by omega, by omega, by omega, by kernel_rfl, R, by rw [hw1]; exact hR, fun v w' hr => Stp.go (hk _ _ ⟨v, rfl, hr⟩ (fun j hj => by simp only [List.mem_cons, List.not_mem_nil, or_false, not_or] at hj; simp only [upd, hj, if_false]))⟩
theorem wp6 {K : KX} {f : Rg} {w : World} {vo : Value} {pb n pc k qb qc i : Nat} (h6 : f 6 = .c (.v vo)) (h5 : f 5 = .c (.v (.slice (some ⟨pb, 0, none⟩) n pc))) (h1 : f 1 = .c (.v (.int .i64 (k : Nat)))) (hkn : k < n) (c0 : w.cell? ⟨pb, k, none⟩ = some (.slice (some ⟨qb, 0, none⟩) 2 qc)) (c1 : w.cell? ⟨qb, 0, none⟩ = some (.int .i64 (i : Nat))) (hi : i ≤ 1048576) {R : Value → World → Prop} (hR : Calls Tryz.prog 70 #[vo, .int .i64 (i : Nat), .int .i64 (i + 1 : Nat)] w.drew fun e w' => ∃ v, e = .returned v ∧ R v w') (hk : ∀ (f' : Rg) (w' : World) , (∃ v, f' 4 = .c (.v v) ∧ R v w') → (∀ j, j ∉ [35, 36, 37, 38, 39, 40, 41, 42, 43, 44, 45, 46, 47, 48, 49, 4] → f' j = f j) → K .normal f' w') : xc Tryz.prog 50 wR6 K f w := by
 have hw : IntKind.i64.wrap ((i : Int) + 1) = ((i + 1 : Nat) : Int) := by rw [wrS i (by omega)]; omega
 simp (maxSteps := 10000000) only [Go.Cx.xc, seval, wR6]
 refine ⟨follows_mixed, ⟨by kernel_rfl, (pln [0, 2, 4, 6, 8, 10, 12, 14, 16, 18, 20, 22, 24, 26, 29, 30]), by kernel_rfl, fun w1 hw1 => ?_⟩⟩
 have d0 : w1.cell? ⟨pb, k, none⟩ = some (.slice (some ⟨qb, 0, none⟩) 2 qc) := by rw [hw1]; exact c0
 have d1 : w1.cell? ⟨qb, 0, none⟩ = some (.int .i64 (i : Nat)) := by rw [hw1]; exact c1
 have cL0 : ∀ d T K f, cLoad Tryz.prog 50 d T ⟨pb, k, none⟩ K f w1 = (Go.Vc.tyS Tryz.prog T = .one ∧ K (put 50 f d (.c (.v (.slice (some ⟨qb, 0, none⟩) 2 qc)))) w1) := fun _ _ _ _ => cLoad_go d0
 have cL1 : ∀ d T K f, cLoad Tryz.prog 50 d T ⟨qb, 0, none⟩ K f w1 = (Go.Vc.tyS Tryz.prog T = .one ∧ K (put 50 f d (.c (.v (.int .i64 (i : Nat))))) w1) := fun _ _ _ _ => cLoad_go d1
 simp (maxSteps := 10000000) only [tt, Go.Cx.xOp, Go.Cx.xCall, Go.Cx.xPlan, pln, Go.Cv.cg0, Go.Cv.cOp, Go.Cx.argsW, Nat.add_zero, seval, h6, h5, h1, hw, cL0, cL1, Nat.zero_add, Nat.mul_one]
 exact ⟨by omega, by omega, by omega, by omega, by kernel_rfl, R, by rw [hw1]; exact hR, fun v w' hr => Stp.go (hk _ _ ⟨v, rfl, hr⟩ (fun j hj => by simp only [List.mem_cons, List.not_mem_nil, or_false, not_or] at hj; simp only [upd, hj, if_false]))⟩
theorem prow_at {w : World} : ∀ {ps : List (Nat × Nat)} {vs : List Value} {F : List Nat}, OwnT w (ps.flatMap prow) vs F → ∀ k (hk : k < ps.length), ∃ qb qc, vs[k]? = some (.slice (some ⟨qb, 0, none⟩) 2 qc) ∧ qb < w.heap.size ∧ w.cell? ⟨qb, 0, none⟩ = some (.int .i64 (ps[k].1 : Nat)) ∧ w.cell? ⟨qb, 1, none⟩ = some (.int .i64 (ps[k].2 : Nat))
 | [], _, _, _, k, hk => absurd hk (Nat.not_lt_zero _)
 | p :: ps, vs, F, h, k, hk => by
  obtain ⟨va, vb, Fa, Fb, rfl, rfl, ha, hb', _⟩ := OwnT.split (a := prow p) (b := ps.flatMap prow) h
  obtain ⟨v, rfl, _⟩ := OwnT.one (d := .sl 2 _) ha
  cases k with
  | succ k =>
   obtain ⟨qb, qc, h1, h2⟩ := prow_at hb' k (by simpa using hk)
   exact ⟨qb, qc, by simpa using h1, by simpa using h2⟩
  | zero =>
   obtain ⟨b, cap, vs, F', cur, t, fz, sz, e1, e2, h, _, hc, hh, _⟩ := OwnT.into (n := 2) ha (by simp)
   obtain ⟨v1, r1, F1, R1, rfl, h1, k1, _⟩ := vals_cons h.val
   obtain ⟨v2, r2, F2, R2, rfl, h2, k2, _⟩ := vals_cons k1
   obtain ⟨rfl, _, _⟩ := h1
   obtain ⟨rfl, _, _⟩ := h2
   exact ⟨b, cap, by rw [e1]; rfl, (Array.getElem?_eq_some_iff.1 hh).1, hc 0 _ rfl, hc 1 _ rfl⟩
theorem woP_mem {L : List Tok} {k : Int} {t : Tok} (h : t ∈ woP L k) : t ∈ L := by
 have d : ∀ {l : List Tok} {i : Nat}, t ∈ delAt l i → t ∈ l := fun h => (List.mem_append.1 h).elim List.mem_of_mem_take List.mem_of_mem_drop
 unfold woP at h
 split at h
 ·split at h
  ·exact d (d h)
  ·exact h
 ·exact h
theorem gr_chl2 {w w1 : World} (G : List Nat) (g : ChL G w.drew w1) : ChL G w w1 := ChL.trans ((show Gr w w.drew from ⟨Nat.le_refl _, fun _ _ => rfl, rfl, rfl, rfl⟩).chl G) g
set_option maxHeartbeats 1000000 in
theorem WithoutPair_raw {w : World} {L : List Tok} {v : Value} {G : List Nat} (hL : L.length ≤ 1048576) (h : CellF w (.sl L.length (L.flatMap Tok.row)) v G) (hM : ∃ b0 m, w.cell? ⟨b0, 0, none⟩ = some (.int .i64 m)) (k : Int) :
 Calls Tryz.prog 33 #[v, .int .i64 k] w fun e w' => ∃ r, e = .returned r ∧ (∃ F, CellF w' (.sl (woP L k).length ((woP L k).flatMap Tok.row)) r F ∧ ∀ x, x ∈ F → w.heap.size ≤ x) ∧ (woP L k ≠ [] → ∃ F, OwnT w' [.sl (woP L k).length ((woP L k).flatMap Tok.row)] [r] F ∧ ∀ x, x ∈ F → w.heap.size ≤ x) ∧ Gr w w' := by
 refine @calls_of_y _ w 33 Tryz.f33 _ [v, .int .i64 k] _ Tryz.func33 wR_body (Nat.le_of_ble_eq_true rfl) ?_
 rw [show Tryz.f33.ntmps = 50 by kernel_rfl, show Tryz.f33.results.toList = [Go.ResultVar.tmp 4] by kernel_rfl]
 obtain ⟨q0, q1⟩ : regsV [v, .int .i64 k] 0 = .c (.v v) ∧ regsV [v, .int .i64 k] 1 = .c (.v (.int .i64 k)) := ⟨rfl, rfl⟩
 generalize regsV [v, .int .i64 k] = g0 at q0 q1
 have ht : ∀ t, t ∈ L → t.text.size ≤ maxLen := by obtain ⟨_, _, _, _, ht⟩ := tok_in h; exact ht
 refine x_seq (wp0 fun f1 _ k1 => sq_n (x_seq ?_))
 have q0 := (k1 0 (by decide)).trans q0
 have q1 := (k1 1 (by decide)).trans q1
 refine wp1 q0 (R := fun r w' => ∃ F : List Nat, OwnT w' [.sl (prs L).length ((prs L).flatMap prow)] [r] F ∧ (∀ x, x ∈ F → w.heap.size ≤ x) ∧ Gr w w') (PairsOf_raw hL h hM) fun f2 w2 ⟨vp, q5, Fp, hP, hPn, g2⟩ k2 => sq_n (x_seq ?_)
 have q0 := (k2 0 (by decide)).trans q0
 have q1 := (k2 1 (by decide)).trans q1
 have h2 : CellF w2 (.sl L.length (L.flatMap Tok.row)) v G := h.mono (fun b hb => g2.keep b (Go.Cv.vis_lt hb)) _
 refine wp2 q0 (R := fun r w' => (∃ F, OwnT w' [.sl L.length (L.flatMap Tok.row)] [r] F ∧ ∀ x, x ∈ F → w2.heap.size ≤ x) ∧ (L ≠ [] → ∃ b cap, r = .slice (some ⟨b, 0, none⟩) L.length cap ∧ w2.heap.size ≤ b ∧ TkS w' b cap L.length (L.flatMap tokV)) ∧ Gr w2 w') (clone_raw h2 hL) fun f3 w3 ⟨vc, q6, ⟨Fc, hC, hCn⟩, hT, g3⟩ k3 => sq_n (x_seq (x_seq ?_))
 have q0 := (k3 0 (by decide)).trans q0
 have q1 := (k3 1 (by decide)).trans q1
 have q5 := (k3 5 (by decide)).trans q5
 have g23 := g2.trans g3
 have out : woP L k = L → ∀ f, f 6 = .c (.v vc) → xc Tryz.prog 50 wR4 (sq Tryz.prog 50 Go.Code.ret (sq Tryz.prog 50 (wR5.seq (wR6.seq Go.Code.ret)) (xEnd Tryz.prog [.tmp 4] fun r w' => (∃ F, CellF w' (.sl (woP L k).length ((woP L k).flatMap Tok.row)) r F ∧ ∀ x, x ∈ F → w.heap.size ≤ x) ∧ (woP L k ≠ [] → ∃ F, OwnT w' [.sl (woP L k).length ((woP L k).flatMap Tok.row)] [r] F ∧ ∀ x, x ∈ F → w.heap.size ≤ x) ∧ Gr w w'))) f w3 := by
  intro e f q6
  refine wp4 q6 fun f5 q4 _ => sq_n (sq_r (x_ret q4 ?_))
  rw [e]
  have hx : ∀ x, x ∈ Fc → w.heap.size ≤ x := fun x hx => Nat.le_trans g2.size (hCn x hx)
  obtain ⟨v', e', hc, _⟩ := hC.one
  obtain rfl : vc = v' := by simpa using e'
  exact ⟨⟨Fc, hc, hx⟩, fun _ => ⟨Fc, hC, hx⟩, g23⟩
 obtain ⟨vpa, vpc, rfl⟩ : ∃ a cap, vp = .slice a (prs L).length cap := by
  obtain ⟨v', e', ⟨a, cap, hc, _⟩, _⟩ := hP.one
  obtain rfl : vp = v' := by simpa using e'
  exact ⟨a, cap, hc⟩
 by_cases hk : k < 0
 ·refine wp3n q1 hk fun f4 q18 k4 => sq_n (x_cond q18 (fun _ => x_seq (out (by unfold woP; rw [dif_neg (by omega)]) f4 ((k4 6 (by decide)).trans q6))) (fun h => by cases h))
 refine wp3p q1 q5 (by omega) fun f4 q18 k4 => sq_n (x_cond q18 (fun hge => ?_) (fun hlt => x_skip (sq_n (x_seq ?_))))
 ·refine x_seq (out ?_ f4 ((k4 6 (by decide)).trans q6))
  have hge := of_decide_eq_true hge
  unfold woP
  rw [dif_pos (by omega), dif_neg (by omega)]
 have hlt : k.toNat < (prs L).length := by have := of_decide_eq_false hlt; omega
 obtain ⟨kn, rfl⟩ : ∃ kn : Nat, k = kn := ⟨k.toNat, by omega⟩
 rw [Int.toNat_natCast] at hlt
 have ew : woP L (kn : Int) = delAt (delAt L (prs L)[kn].2) (prs L)[kn].1 := by
  unfold woP
  rw [dif_pos (by omega), dif_pos (by omega)]
  rfl
 have q6 := (k4 6 (by decide)).trans q6
 have q5 := (k4 5 (by decide)).trans q5
 have q1 := (k4 1 (by decide)).trans q1
 obtain ⟨b1, b2⟩ := prs_bd (List.getElem_mem hlt)
 have hne : L ≠ [] := fun e => by have := congrArg List.length e; simp only [List.length_nil] at this; omega
 obtain ⟨b, cap, rfl, hb, hS⟩ := hT hne
 have hpn : (prs L).flatMap prow ≠ [] := fun e => by
  have := congrArg List.length e
  rw [flatMap_len prow_len] at this
  simp only [List.length_nil] at this
  omega
 obtain ⟨pb, pc, vs, Fq, cur, t, fz, sz, e1, e2, hin, _, hcs, hh, _⟩ := hP.into hpn
 injection e1 with e1 e3 e4
 subst e1 e4
 obtain ⟨qb, qc, c0, hqb, c1, c2⟩ := prow_at hin kn hlt
 have c0 : w2.cell? ⟨pb, kn, none⟩ = some (.slice (some ⟨qb, 0, none⟩) 2 qc) := by simpa using hcs kn _ c0
 have hpb := (Array.getElem?_eq_some_iff.1 hh).1
 have n1 : pb ≠ b := by omega
 have n2 : qb ≠ b := by omega
 generalize (prs L)[kn] = pr at *
 obtain ⟨a, j⟩ := pr
 have b1 : a < j := b1
 have b2 : j < L.length := b2
 refine wp5 q6 q5 q1 hlt (cell_keep g3 hpb c0) (cell_keep g3 hqb c2) (by show j ≤ _; omega) (del_raw (w := w3.drew) hS (by show j < j + 1; omega) (by show j + 1 ≤ _; omega) hL) fun f5 w5 ⟨v5, p6, e5, hS5, g5⟩ k5 => sq_n (x_seq ?_)
 subst e5
 have g5 := gr_chl2 [b] g5
 have kc : ∀ {x o : Nat} {u : Value}, x ≠ b → x < w2.heap.size → w2.cell? ⟨x, o, none⟩ = some u → w5.cell? ⟨x, o, none⟩ = some u := fun {x o u} hx hlt hc => by
  have := cell_keep g3 hlt hc
  unfold World.cell? at this ⊢
  rw [g5.keep x (Nat.lt_of_lt_of_le hlt g3.size) (by simpa using hx)]; exact this
 have q5 := (k5 5 (by decide)).trans q5
 have q1 := (k5 1 (by decide)).trans q1
 have hl5 : (L.take j ++ L.drop (j + 1)).length = L.length - 1 := by rw [List.length_append, List.length_take, List.length_drop]; omega
 refine wp6 p6 q5 q1 hlt (kc n1 hpb c0) (kc n2 hqb c1) (by show a ≤ _; omega) (del_raw (w := w5.drew) hS5 (by show a < a + 1; omega) (by rw [hl5]; show a + 1 ≤ _; omega) (by rw [hl5]; omega)) fun f6 w6 ⟨v6, p4, e6, hS6, g6⟩ k6 => sq_n (x_ret p4 ?_)
 subst e6
 have g6 := gr_chl2 [b] g6
 have gall : Gr w w6 := (g23.chl_trans g5 (fun x hx => by rw [List.mem_singleton.1 hx]; exact Nat.le_trans g2.size hb)).chl_trans g6 (fun x hx => by rw [List.mem_singleton.1 hx]; exact Nat.le_trans g2.size hb)
 have ht2 : ∀ t, t ∈ woP L (kn : Int) → t.text.size ≤ maxLen := fun t h => ht t (woP_mem h)
 have ew : woP L (kn : Int) = (L.take j ++ L.drop (j + 1)).take a ++ (L.take j ++ L.drop (j + 1)).drop (a + 1) := ew
 rw [ew] at ht2 ⊢
 have hbn : w.heap.size ≤ b := Nat.le_trans g2.size hb
 obtain ⟨F, hF, hFb⟩ := hS6.cell ht2
 refine ⟨⟨F, hF, fun x hx => by rw [hFb x hx]; exact hbn⟩, fun hne => ?_, gall⟩
 obtain ⟨F2, hO, hF2⟩ := hS6.own ht2 (fun e => absurd e hne)
 exact ⟨F2, hO, fun x hx => by rw [hF2 x hx]; exact hbn⟩
def okS (w w' : World) (s : S) : Prop := (plainL (cellsS s) && decide ((cellsS s).length ≤ 900)) = true ∨
 ∃ m es F, s = .c (.sl m es (some [F])) ∧ F.Nodup ∧ ∀ b ∈ F, w.heap.size ≤ b ∧ ∃ cs t lh, w'.heap[b]? = some (.cells cs t lh) ∧ Lh cs.size lh
theorem cl_gen {g : FuncId} {args : List S} {R : S → List (List C) → Prop} (hc : Go.Vc.callable Tryz.prog g = true) (hpl : plainL (args.flatMap cellsS) = true)
 (h : ∀ (w : World) (vs : List Value), (∃ β ok, RelA Tryz.prog w β ok args vs) → GlW w (fun _ => False) → Calls Tryz.prog g vs.toArray w fun e w' => ∃ r, e = .returned r ∧ ∃ s, R s [] ∧ okS w w' s ∧ (∀ β, RelS Tryz.prog w' β (fun b => w.heap.size ≤ b) s r) ∧ Gr w w') :
 Cl Tryz.prog g args [] R := by
 refine ⟨hc, fun w β ok0 vs ha ho hg => ?_⟩
 obtain ⟨e1, e2⟩ := plain_args 9500 hpl
 have el : lent args [] = [] := by simp [lent, e2, expB]
 rw [e1] at ha
 have ho' : ∀ b, ¬ ownB (lent args []) β b := by rw [el]; rintro b ⟨i, o, hl, _⟩; simp [Go.Dv.look] at hl
 refine (h w vs ⟨_, _, ha⟩ (hg.mono (fun _ _ _ => rfl) fun _ h _ => h.elim)).mono ?_
 rintro e w' ⟨v, rfl, r, hR, hp, hrel, hB⟩
 rcases hp with hp | ⟨m, es, F, rfl, hn, hF⟩
 ·simp only [Bool.and_eq_true, decide_eq_true_eq] at hp
  obtain ⟨k1, k2, k3, k4, k5, k6, k7⟩ := plain_all (ρ := []) (L := []) hp.1
  have hbk : back r [] = [] := by simp [back, k2, expB]
  have hnb : ∀ b, ¬ ownB (back r []) β b := by rw [hbk]; rintro b ⟨i, o, hl, _⟩; simp [Go.Dv.look] at hl
  refine ⟨v, r, [], β, rfl, hR, ⟨?_, ⟨fun i o hl => ?_, fun i j o o' b hl => ?_⟩, fun k hk => absurd hk (Nat.not_lt_zero _), rfl, ⟨hB.size, fun b hb _ => hB.keep b hb, fun b _ hb => (hnb b hb).elim, fun b cs ty lh hc => ⟨cs, lh, (hB.keep b (lt_of_heap hc)).trans hc, rfl⟩⟩, hB.size, ⟨hB.os, hB.tape, hB.output⟩, ⟨by simp [fps, k7, fpB], fun b hb => ?_⟩, by simp [flat, k6, hp.2, flatB]⟩⟩
  ·rw [plain_expS hp.1]
   exact (hrel β).st (stab_mono fun b hb => ⟨hnb b, fun hlt => by omega⟩)
  ·simp [hbk, Go.Dv.look] at hl
  ·simp [hbk, Go.Dv.look] at hl
  ·simp [fps, k7, fpB] at hb
 ·have hnb : ∀ b, ¬ ownB (back (.c (.sl m es (some [F]))) []) β b := by rintro b ⟨i, o, hl, _⟩; cases hl
  have hfp : (fps (.c (.sl m es (some [F]))) []).flatten = F := by simp [fps, cellsS, fpL, fpC, fpB]
  refine ⟨v, _, [], β, rfl, hR, ⟨?_, ⟨fun i o hl => (by cases hl), fun i j o o' b hl => (by cases hl)⟩, fun k hk => absurd hk (Nat.not_lt_zero _), rfl, ⟨hB.size, fun b hb _ => hB.keep b hb, fun b _ hb => (hnb b hb).elim, fun b cs ty lh hc => ⟨cs, lh, (hB.keep b (lt_of_heap hc)).trans hc, rfl⟩⟩, hB.size, ⟨hB.os, hB.tape, hB.output⟩, ⟨by rw [hfp]; exact hn, fun b hb => ?_⟩, rfl⟩⟩
  ·exact (hrel β).st (stab_mono fun b hb => ⟨hnb b, fun hlt => by omega⟩)
  ·rw [hfp] at hb
   exact ⟨.inl (hF b hb).1, (hF b hb).2, hnb b⟩
theorem gl_num {w : World} {own : Nat → Prop} (h : GlW w own) : ∃ b0 m, w.cell? ⟨b0, 0, none⟩ = some (.int .i64 m) := by
 obtain ⟨_, cs, ty, lh, h1, m, h2⟩ := h (0, fun cs => ∃ m, cs[0]? = some (.int .i64 m)) (List.mem_append_left _ (by unfold libVars; exact List.mem_cons_of_mem _ (List.mem_cons_self ..)))
 have h1 : w.heap[0]? = some (.cells cs ty lh) := h1
 refine ⟨0, m, ?_⟩
 rw [cell_of_row w _ 0 cs ty lh h1]; exact h2
theorem own_rel {w w' : World} {n : Nat} {ds : List D} {r : Value} {F : List Nat} (h : OwnT w' [.sl n ds] [r] F) (hn : ∀ x ∈ F, w.heap.size ≤ x) : okS w w' (.c (.sl n ds (some [F]))) ∧ ∀ β, RelS Tryz.prog w' β (fun b => w.heap.size ≤ b) (.c (.sl n ds (some [F]))) r := by
 obtain ⟨v', e', hc, hw⟩ := h.one
 obtain rfl : r = v' := by simpa using e'
 refine ⟨.inr ⟨n, ds, F, rfl, h.nodup, fun b hb => ⟨hn b hb, h.own b hb⟩⟩, fun β => ⟨F, hc, hn, fun Fs e => ?_⟩⟩
 injection e with e
 subst e
 exact ⟨by simpa using Sb.refl F, hw⟩
theorem iPairsOf_d (L : List Tok) (hL : L.length ≤ 1048576) : Cl Tryz.prog 12 [.c (.sl L.length (L.flatMap Tok.row) none)] [] fun r _ => r = .c (.sl (prs L).length ((prs L).flatMap prow) none) := by
 refine cl_gen (by kernel_rfl) rfl fun w vs ⟨β, ok, ha⟩ hg => ?_
 obtain ⟨v, G, rfl, hv⟩ : ∃ v G, vs = [v] ∧ CellF w (.sl L.length (L.flatMap Tok.row)) v G := by
  match vs, ha with
  | [v], ⟨⟨G, h1, _⟩, _⟩ => exact ⟨v, G, rfl, h1⟩
 refine (PairsOf_raw hL hv (gl_num hg)).mono ?_
 rintro e w' ⟨r, rfl, F, hO, hF, g⟩
 obtain ⟨v', e', hc, _⟩ := hO.one
 obtain rfl : r = v' := by simpa using e'
 exact ⟨_, rfl, _, rfl, .inl rfl, fun β => ⟨F, hc, hF, fun Fs e => by cases e⟩, g⟩
theorem iWithoutPair_d (L : List Tok) (hL : L.length ≤ 1048576) (k : Int) : Cl Tryz.prog 33 [.c (.sl L.length (L.flatMap Tok.row) none), vi k] [] fun r _ => r = .c (.sl (woP L k).length ((woP L k).flatMap Tok.row) none) := by
 refine cl_gen (by kernel_rfl) rfl fun w vs ⟨β, ok, ha⟩ hg => ?_
 obtain ⟨v, G, rfl, hv⟩ : ∃ v G, vs = [v, .int .i64 k] ∧ CellF w (.sl L.length (L.flatMap Tok.row)) v G := by
  match vs, ha with
  | [v, u], ⟨⟨G, h1, _⟩, ⟨e, _⟩, _⟩ => exact ⟨v, G, by rw [e], h1⟩
 refine (WithoutPair_raw hL hv (gl_num hg) k).mono ?_
 rintro e w' ⟨r, rfl, ⟨F, hc, hF⟩, _, g⟩
 exact ⟨_, rfl, _, rfl, .inl rfl, fun β => ⟨F, hc, hF, fun Fs e => by cases e⟩, g⟩
theorem iWithoutPair_t (L : List Tok) (hL : L.length ≤ 1048576) (k : Int) (hne : woP L k ≠ []) : Cl Tryz.prog 33 [.c (.sl L.length (L.flatMap Tok.row) none), vi k] [] fun r _ => ∃ F, r = .c (.sl (woP L k).length ((woP L k).flatMap Tok.row) (some [F])) := by
 refine cl_gen (by kernel_rfl) rfl fun w vs ⟨β, ok, ha⟩ hg => ?_
 obtain ⟨v, G, rfl, hv⟩ : ∃ v G, vs = [v, .int .i64 k] ∧ CellF w (.sl L.length (L.flatMap Tok.row)) v G := by
  match vs, ha with
  | [v, u], ⟨⟨G, h1, _⟩, ⟨e, _⟩, _⟩ => exact ⟨v, G, by rw [e], h1⟩
 refine (WithoutPair_raw hL hv (gl_num hg) k).mono ?_
 rintro e w' ⟨r, rfl, _, hO, g⟩
 obtain ⟨F, hO, hF⟩ := hO hne
 exact ⟨_, rfl, _, ⟨F, rfl⟩, (own_rel hO hF).1, (own_rel hO hF).2, g⟩
theorem cloneT_t (L : List Tok) (hL : L.length ≤ 1048576) : Cl Tryz.prog 69 [.c (.sl L.length (L.flatMap Tok.row) none)] [] fun r _ => ∃ F, r = .c (.sl L.length (L.flatMap Tok.row) (some [F])) := by
 refine cl_gen (by kernel_rfl) rfl fun w vs ⟨β, ok, ha⟩ hg => ?_
 obtain ⟨v, G, rfl, hv⟩ : ∃ v G, vs = [v] ∧ CellF w (.sl L.length (L.flatMap Tok.row)) v G := by
  match vs, ha with
  | [v], ⟨⟨G, h1, _⟩, _⟩ => exact ⟨v, G, rfl, h1⟩
 refine (clone_raw hv hL).mono ?_
 rintro e w' ⟨r, rfl, ⟨F, hO, hF⟩, _, g⟩
 exact ⟨_, rfl, _, ⟨F, rfl⟩, (own_rel hO hF).1, (own_rel hO hF).2, g⟩
end Go.Proofs.YtoegnikpokgbfaaGreatDoor
