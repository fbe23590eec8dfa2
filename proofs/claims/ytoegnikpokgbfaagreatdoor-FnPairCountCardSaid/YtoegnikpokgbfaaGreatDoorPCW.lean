/-
  Pairs of parentheses in the very world.
  Conditions: none.
-/
import Derived.Test.YtoegnikpokgbfaaGreatDoorPCY
import Derived.Test.YtoegnikpokgbfaaGreatDoorPCP
import Derived.Shelf.SlSortCmp.Whole1
import Derived.Shelf.SlicesG.Cmp
set_option linter.unusedVariables false
set_option linter.unusedSimpArgs false
set_option linter.unusedSectionVars false
set_option linter.unnecessarySimpa false
set_option maxRecDepth 8000
namespace Go.Proofs.YtoegnikpokgbfaaGreatDoor
open Go Go.Dv
open Go.Vc (D shrI xorI andI and255)
open Go.Vc (D shrI xorI andI and255 okV CellF ValsF Cells)
open Go.Cv Go.Cx
theorem cell_block {w : World} {b o : Nat} {v : Value} (h : w.cell? ⟨b, o, none⟩ = some v) : ∃ cs ty lh, w.heap[b]? = some (.cells cs ty lh) ∧ cs[o]? = some v := by
 unfold World.cell? at h
 cases hb : w.heap[b]? with
 | none => simp [hb] at h
 | some ob =>
  cases ob <;> simp [hb] at h
  exact ⟨_, _, _, rfl, by first | exact h | simpa using h⟩
def prow (p : Nat × Nat) : List D := [.sl 2 [.lit (.int .i64 p.1), .lit (.int .i64 p.2)]]
theorem prow_len (p : Nat × Nat) : (prow p).length = 1 := rfl
def tokV (t : Tok) : List Value := [.int .i64 t.kind, .string t.text, .int .i64 t.at_]
theorem tok_vals {w : World} : ∀ {L : List Tok} {vs : List Value} {F : List Nat}, ValsF w (L.flatMap Tok.row) vs F → vs = L.flatMap tokV
 | [], [], _, _ => rfl
 | [], _ :: _, _, h => h.elim
 | ⟨k, x, a⟩ :: L, vs, F, h => by
  have h : ValsF w (.lit (.int .i64 k) :: .lit (.string x) :: .lit (.int .i64 a) :: L.flatMap Tok.row) vs F := h
  obtain ⟨v1, r1, F1, R1, rfl, h1, k1, rfl⟩ := vals_cons h
  obtain ⟨v2, r2, F2, R2, rfl, h2, k2, rfl⟩ := vals_cons k1
  obtain ⟨v3, r3, F3, R3, rfl, h3, k3, rfl⟩ := vals_cons k2
  obtain ⟨rfl, rfl, _⟩ := h1
  obtain ⟨rfl, rfl, _⟩ := h2
  obtain ⟨rfl, rfl, _⟩ := h3
  rw [tok_vals k3]; rfl
theorem tokV_at : ∀ {L : List Tok} {i : Nat} (hi : i < L.length), (L.flatMap tokV)[i * 3]? = some (.int .i64 L[i].kind) ∧ (L.flatMap tokV)[i * 3 + 1]? = some (.string L[i].text) ∧ (L.flatMap tokV)[i * 3 + 2]? = some (.int .i64 L[i].at_)
 | [], _, h => absurd h (Nat.not_lt_zero _)
 | t :: L, 0, _ => ⟨rfl, rfl, rfl⟩
 | t :: L, i + 1, h => by
  have ih := tokV_at (L := L) (i := i) (by simpa using h)
  have e : (t :: L).flatMap tokV = tokV t ++ L.flatMap tokV := rfl
  rw [e]
  refine ⟨?_, ?_, ?_⟩
  ·rw [List.getElem?_append_right (by show 3 ≤ _; omega)]; simpa [tokV, show (i + 1) * 3 - 3 = i * 3 by omega] using ih.1
  ·rw [List.getElem?_append_right (by show 3 ≤ _; omega)]; simpa [tokV, show (i + 1) * 3 + 1 - 3 = i * 3 + 1 by omega] using ih.2.1
  ·rw [List.getElem?_append_right (by show 3 ≤ _; omega)]; simpa [tokV, show (i + 1) * 3 + 2 - 3 = i * 3 + 2 by omega] using ih.2.2
theorem tok_cells {w : World} {L : List Tok} {v : Value} {G : List Nat} (h : CellF w (.sl L.length (L.flatMap Tok.row)) v G) (hne : L ≠ []) :
 ∃ b o cap, v = .slice (some ⟨b, o, none⟩) L.length cap ∧ b < w.heap.size ∧ ∀ i (hi : i < L.length), w.cell? ⟨b, o + i * 3, none⟩ = some (.int .i64 L[i].kind) ∧ w.cell? ⟨b, o + i * 3 + 1, none⟩ = some (.string L[i].text) ∧ w.cell? ⟨b, o + i * 3 + 2, none⟩ = some (.int .i64 L[i].at_) := by
 obtain ⟨a, cap, rfl, _, _, _, ⟨e, _⟩ | ⟨_, b, o, F, rfl, hr, _⟩⟩ := h
 ·have := congrArg List.length e
  rw [flatMap_len Tok.row_len] at this
  exact absurd (List.eq_nil_of_length_eq_zero (by simp only [List.length_nil] at this; omega)) hne
 ·obtain ⟨vs, hc, hv⟩ := hr.vals
  obtain rfl := tok_vals hv
  have hlt : b < w.heap.size := by
   obtain ⟨t, r, rfl⟩ : ∃ t r, L = t :: r := by
    cases L with
    | nil => exact absurd rfl hne
    | cons t r => exact ⟨t, r, rfl⟩
   obtain ⟨cs, ty, lh, hb, _⟩ := cell_block (hc 0 _ rfl)
   exact (Array.getElem?_eq_some_iff.1 hb).1
  refine ⟨b, o, cap, rfl, hlt, fun i hi => ?_⟩
  obtain ⟨h1, h2, h3⟩ := tokV_at hi
  exact ⟨hc _ _ h1, hc _ _ h2, hc _ _ h3⟩
theorem cLoad_go {P : Program} {n : Nat} {d : Option Nat} {t : TypeId} {ad : Addr} {K : K1} {f : Rg} {w : World} {v : Value} (h : w.cell? ad = some v) : cLoad P n d t ad K f w = (Go.Vc.tyS P t = .one ∧ K (put n f d (.c (.v v))) w) := by
 unfold cLoad
 rw [h]
 exact propext ⟨fun ⟨h1, v', h2, h3⟩ => ⟨h1, by injection h2 with h2; rw [h2]; exact h3⟩, fun ⟨h1, h2⟩ => ⟨h1, v, rfl, h2⟩⟩
theorem cell_keep {w w' : World} (g : Gr w w') {b o : Nat} (hb : b < w.heap.size) {x : Value} (h : w.cell? ⟨b, o, none⟩ = some x) : w'.cell? ⟨b, o, none⟩ = some x := by
 unfold World.cell? at h ⊢
 rw [g.keep b hb]; exact h
def pR0 : Go.Code := Go.Code.region 0 #[{ dst := Option.some 2, op := Go.Op.assign (Go.Operand.const (Go.Value.slice Option.none 0 0)), type := 33, pos := "l14_pairs.go:9", after := #[], guard := Option.none }] Bool.false
def pR1 : Go.Code := Go.Code.region 1 #[{ dst := Option.some 8, op := Go.Op.buildSlice 33 0 #[], type := 33, pos := "l14_pairs.go:10", after := #[], guard := Option.none }, { dst := Option.some 3, op := Go.Op.assign (Go.Operand.tmp 8), type := 33, pos := "l14_pairs.go:10", after := #[{ on := 0, ground := Go.Ground.data }, { on := 0, ground := Go.Ground.phase }], guard := Option.none }] Bool.false
def pR2 : Go.Code := Go.Code.region 2 #[{ dst := Option.some 9, op := Go.Op.buildSlice 45 0 #[], type := 45, pos := "l14_pairs.go:11", after := #[], guard := Option.none }, { dst := Option.some 4, op := Go.Op.assign (Go.Operand.tmp 9), type := 45, pos := "l14_pairs.go:11", after := #[{ on := 0, ground := Go.Ground.data }, { on := 0, ground := Go.Ground.phase }], guard := Option.none }] Bool.false
def pR3 : Go.Code := Go.Code.region 3 #[{ dst := Option.some 10, op := Go.Op.move (Go.Operand.tmp 0), type := 31, pos := "l14_pairs.go:12", after := #[], guard := Option.none }, { dst := Option.some 11, op := Go.Op.call { callee := Go.Callee.builtin Go.Builtin.len, args := #[Go.Operand.tmp 10], argTypes := #[31] }, type := 3, pos := "l14_pairs.go:12", after := #[{ on := 0, ground := Go.Ground.data }], guard := Option.none }, { dst := Option.some 12, op := Go.Op.move (Go.Operand.const (Go.Value.int Go.IntKind.i64 0)), type := 3, pos := "l14_pairs.go:12", after := #[], guard := Option.none }] Bool.false
def pR4 : Go.Code := Go.Code.region 4 #[{ dst := Option.some 13, op := Go.Op.binOp Go.BinOp.lss 3 (Go.Operand.tmp 12) (Go.Operand.tmp 11) 3, type := 0, pos := "l14_pairs.go:12", after := #[], guard := Option.none }] Bool.false
def pR5 : Go.Code := Go.Code.region 5 #[{ dst := Option.some 14, op := Go.Op.move (Go.Operand.tmp 12), type := 3, pos := "l14_pairs.go:12", after := #[], guard := Option.none }, { dst := Option.some 15, op := Go.Op.indexAddr 31 (Go.Operand.tmp 10) (Go.Operand.tmp 12), type := 0, pos := "l14_pairs.go:12", after := #[], guard := Option.none }, { dst := Option.some 16, op := Go.Op.load 61 (Go.Operand.tmp 15), type := 61, pos := "l14_pairs.go:12", after := #[{ on := 1, ground := Go.Ground.data }], guard := Option.none }, { dst := Option.some 6, op := Go.Op.alloc 61, type := 0, pos := "l14_pairs.go:12", after := #[], guard := Option.none }, { dst := Option.some 5, op := Go.Op.assign (Go.Operand.tmp 14), type := 3, pos := "l14_pairs.go:12", after := #[{ on := 0, ground := Go.Ground.data }, { on := 0, ground := Go.Ground.phase }, { on := 1, ground := Go.Ground.phase }, { on := 2, ground := Go.Ground.phase }, { on := 3, ground := Go.Ground.phase }], guard := Option.none }, { dst := Option.none, op := Go.Op.store 61 (Go.Operand.tmp 6) (Go.Operand.tmp 16), type := 0, pos := "l14_pairs.go:12", after := #[{ on := 3, ground := Go.Ground.data }, { on := 2, ground := Go.Ground.data }, { on := 4, ground := Go.Ground.chain }, { on := 0, ground := Go.Ground.phase }, { on := 1, ground := Go.Ground.phase }, { on := 2, ground := Go.Ground.phase }, { on := 3, ground := Go.Ground.phase }, { on := 4, ground := Go.Ground.phase }], guard := Option.none }] Bool.false
def pR6 : Go.Code := Go.Code.region 6 #[{ dst := Option.some 17, op := Go.Op.fieldAddr 61 (Go.Operand.tmp 6) 0, type := 0, pos := "l14_pairs.go:13", after := #[], guard := Option.none }, { dst := Option.some 18, op := Go.Op.load 3 (Go.Operand.tmp 17), type := 3, pos := "l14_pairs.go:13", after := #[{ on := 0, ground := Go.Ground.data }], guard := Option.none }, { dst := Option.some 19, op := Go.Op.binOp Go.BinOp.neq 3 (Go.Operand.tmp 18) (Go.Operand.const (Go.Value.int Go.IntKind.i64 5)) 3, type := 4, pos := "l14_pairs.go:13", after := #[{ on := 1, ground := Go.Ground.data }], guard := Option.none }] Bool.false
def pR7 : Go.Code := Go.Code.region 7 #[{ dst := Option.some 20, op := Go.Op.fieldAddr 61 (Go.Operand.tmp 6) 1, type := 0, pos := "l14_pairs.go:16", after := #[], guard := Option.none }, { dst := Option.some 21, op := Go.Op.load 9 (Go.Operand.tmp 20), type := 9, pos := "l14_pairs.go:16", after := #[{ on := 0, ground := Go.Ground.data }], guard := Option.none }] Bool.false
def pR8 : Go.Code := Go.Code.region 8 #[{ dst := Option.some 23, op := Go.Op.binOp Go.BinOp.eql 9 (Go.Operand.tmp 21) (Go.Operand.const (Go.Value.string { data := #[40] })) 9, type := 4, pos := "l14_pairs.go:17", after := #[], guard := Option.none }, { dst := Option.some 22, op := Go.Op.assign (Go.Operand.tmp 23), type := 4, pos := "l14_pairs.go:17", after := #[{ on := 0, ground := Go.Ground.data }], guard := Option.none }] Bool.false
def pR9 : Go.Code := Go.Code.region 9 #[{ dst := Option.some 24, op := Go.Op.move (Go.Operand.tmp 4), type := 45, pos := "l14_pairs.go:18", after := #[], guard := Option.none }, { dst := Option.some 25, op := Go.Op.move (Go.Operand.tmp 5), type := 3, pos := "l14_pairs.go:18", after := #[], guard := Option.none }, { dst := Option.some 26, op := Go.Op.buildSlice 45 1 #[(0, Go.Operand.tmp 25)], type := 45, pos := "l14_pairs.go:18", after := #[{ on := 1, ground := Go.Ground.data }], guard := Option.none }, { dst := Option.some 27, op := Go.Op.call { callee := Go.Callee.builtin Go.Builtin.append, args := #[Go.Operand.tmp 24, Go.Operand.tmp 26], argTypes := #[45, 45] }, type := 45, pos := "l14_pairs.go:18", after := #[{ on := 0, ground := Go.Ground.data }, { on := 2, ground := Go.Ground.data }], guard := Option.none }, { dst := Option.some 4, op := Go.Op.assign (Go.Operand.tmp 27), type := 45, pos := "l14_pairs.go:18", after := #[{ on := 3, ground := Go.Ground.data }, { on := 3, ground := Go.Ground.chain }, { on := 0, ground := Go.Ground.phase }, { on := 1, ground := Go.Ground.phase }, { on := 2, ground := Go.Ground.phase }, { on := 3, ground := Go.Ground.phase }], guard := Option.none }] Bool.false
def pR10 : Go.Code := Go.Code.region 10 #[{ dst := Option.some 29, op := Go.Op.binOp Go.BinOp.eql 9 (Go.Operand.tmp 21) (Go.Operand.const (Go.Value.string { data := #[41] })) 9, type := 4, pos := "l14_pairs.go:19", after := #[], guard := Option.none }, { dst := Option.some 28, op := Go.Op.assign (Go.Operand.tmp 29), type := 4, pos := "l14_pairs.go:19", after := #[{ on := 0, ground := Go.Ground.data }], guard := Option.none }] Bool.false
def pR11 : Go.Code := Go.Code.region 11 #[{ dst := Option.some 30, op := Go.Op.move (Go.Operand.tmp 4), type := 45, pos := "l14_pairs.go:20", after := #[], guard := Option.none }, { dst := Option.some 31, op := Go.Op.call { callee := Go.Callee.builtin Go.Builtin.len, args := #[Go.Operand.tmp 30], argTypes := #[45] }, type := 3, pos := "l14_pairs.go:20", after := #[{ on := 0, ground := Go.Ground.data }], guard := Option.none }, { dst := Option.some 32, op := Go.Op.binOp Go.BinOp.eql 3 (Go.Operand.tmp 31) (Go.Operand.const (Go.Value.int Go.IntKind.i64 0)) 3, type := 4, pos := "l14_pairs.go:20", after := #[{ on := 1, ground := Go.Ground.data }], guard := Option.none }] Bool.false
def pR12 : Go.Code := Go.Code.region 12 #[{ dst := Option.some 33, op := Go.Op.move (Go.Operand.tmp 4), type := 45, pos := "l14_pairs.go:23", after := #[], guard := Option.none }, { dst := Option.some 34, op := Go.Op.move (Go.Operand.tmp 4), type := 45, pos := "l14_pairs.go:23", after := #[], guard := Option.none }, { dst := Option.some 35, op := Go.Op.call { callee := Go.Callee.builtin Go.Builtin.len, args := #[Go.Operand.tmp 34], argTypes := #[45] }, type := 3, pos := "l14_pairs.go:23", after := #[{ on := 1, ground := Go.Ground.data }], guard := Option.none }, { dst := Option.some 36, op := Go.Op.binOp Go.BinOp.sub 3 (Go.Operand.tmp 35) (Go.Operand.const (Go.Value.int Go.IntKind.i64 1)) 3, type := 3, pos := "l14_pairs.go:23", after := #[{ on := 2, ground := Go.Ground.data }], guard := Option.none }, { dst := Option.some 37, op := Go.Op.indexAddr 45 (Go.Operand.tmp 33) (Go.Operand.tmp 36), type := 0, pos := "l14_pairs.go:23", after := #[{ on := 0, ground := Go.Ground.data }, { on := 3, ground := Go.Ground.data }], guard := Option.none }, { dst := Option.some 38, op := Go.Op.load 3 (Go.Operand.tmp 37), type := 3, pos := "l14_pairs.go:23", after := #[{ on := 4, ground := Go.Ground.data }], guard := Option.none }, { dst := Option.some 7, op := Go.Op.assign (Go.Operand.tmp 38), type := 3, pos := "l14_pairs.go:23", after := #[{ on := 5, ground := Go.Ground.data }, { on := 0, ground := Go.Ground.phase }, { on := 1, ground := Go.Ground.phase }, { on := 2, ground := Go.Ground.phase }, { on := 3, ground := Go.Ground.phase }, { on := 4, ground := Go.Ground.phase }, { on := 5, ground := Go.Ground.phase }], guard := Option.none }] Bool.false
def pR13 : Go.Code := Go.Code.region 13 #[{ dst := Option.some 39, op := Go.Op.move (Go.Operand.tmp 4), type := 45, pos := "l14_pairs.go:24", after := #[], guard := Option.none }, { dst := Option.some 40, op := Go.Op.move (Go.Operand.tmp 4), type := 45, pos := "l14_pairs.go:24", after := #[], guard := Option.none }, { dst := Option.some 41, op := Go.Op.call { callee := Go.Callee.builtin Go.Builtin.len, args := #[Go.Operand.tmp 40], argTypes := #[45] }, type := 3, pos := "l14_pairs.go:24", after := #[{ on := 1, ground := Go.Ground.data }], guard := Option.none }, { dst := Option.some 42, op := Go.Op.binOp Go.BinOp.sub 3 (Go.Operand.tmp 41) (Go.Operand.const (Go.Value.int Go.IntKind.i64 1)) 3, type := 3, pos := "l14_pairs.go:24", after := #[{ on := 2, ground := Go.Ground.data }], guard := Option.none }, { dst := Option.some 43, op := Go.Op.slice 45 (Go.Operand.tmp 39) Option.none (Option.some (Go.Operand.tmp 42)) Option.none, type := 45, pos := "l14_pairs.go:24", after := #[{ on := 0, ground := Go.Ground.data }, { on := 3, ground := Go.Ground.data }], guard := Option.none }, { dst := Option.some 4, op := Go.Op.assign (Go.Operand.tmp 43), type := 45, pos := "l14_pairs.go:24", after := #[{ on := 4, ground := Go.Ground.data }, { on := 0, ground := Go.Ground.phase }, { on := 1, ground := Go.Ground.phase }, { on := 2, ground := Go.Ground.phase }, { on := 3, ground := Go.Ground.phase }, { on := 4, ground := Go.Ground.phase }], guard := Option.none }] Bool.false
def pR14 : Go.Code := Go.Code.region 14 #[{ dst := Option.some 44, op := Go.Op.move (Go.Operand.tmp 7), type := 3, pos := "l14_pairs.go:25", after := #[], guard := Option.none }, { dst := Option.some 45, op := Go.Op.binOp Go.BinOp.eql 3 (Go.Operand.tmp 44) (Go.Operand.const (Go.Value.int Go.IntKind.i64 0)) 3, type := 4, pos := "l14_pairs.go:25", after := #[{ on := 0, ground := Go.Ground.data }], guard := Option.none }, { dst := Option.some 46, op := Go.Op.move (Go.Operand.tmp 45), type := 4, pos := "l14_pairs.go:25", after := #[{ on := 1, ground := Go.Ground.data }], guard := Option.none }, { dst := Option.some 47, op := Go.Op.move (Go.Operand.tmp 0), type := 31, pos := "l14_pairs.go:25", after := #[{ on := 2, ground := Go.Ground.guard }], guard := Option.some (2, Bool.false) }, { dst := Option.some 48, op := Go.Op.move (Go.Operand.tmp 7), type := 3, pos := "l14_pairs.go:25", after := #[{ on := 2, ground := Go.Ground.guard }], guard := Option.some (2, Bool.false) }, { dst := Option.some 49, op := Go.Op.binOp Go.BinOp.sub 3 (Go.Operand.tmp 48) (Go.Operand.const (Go.Value.int Go.IntKind.i64 1)) 3, type := 3, pos := "l14_pairs.go:25", after := #[{ on := 4, ground := Go.Ground.data }, { on := 2, ground := Go.Ground.guard }], guard := Option.some (2, Bool.false) }, { dst := Option.some 50, op := Go.Op.indexAddr 31 (Go.Operand.tmp 47) (Go.Operand.tmp 49), type := 0, pos := "l14_pairs.go:25", after := #[{ on := 3, ground := Go.Ground.data }, { on := 5, ground := Go.Ground.data }, { on := 2, ground := Go.Ground.guard }], guard := Option.some (2, Bool.false) }, { dst := Option.some 51, op := Go.Op.fieldAddr 61 (Go.Operand.tmp 50) 0, type := 0, pos := "l14_pairs.go:25", after := #[{ on := 6, ground := Go.Ground.data }, { on := 2, ground := Go.Ground.guard }], guard := Option.some (2, Bool.false) }, { dst := Option.some 52, op := Go.Op.load 3 (Go.Operand.tmp 51), type := 3, pos := "l14_pairs.go:25", after := #[{ on := 7, ground := Go.Ground.data }, { on := 2, ground := Go.Ground.guard }], guard := Option.some (2, Bool.false) }, { dst := Option.some 53, op := Go.Op.binOp Go.BinOp.neq 3 (Go.Operand.tmp 52) (Go.Operand.const (Go.Value.int Go.IntKind.i64 1)) 3, type := 4, pos := "l14_pairs.go:25", after := #[{ on := 8, ground := Go.Ground.data }, { on := 2, ground := Go.Ground.guard }], guard := Option.some (2, Bool.false) }, { dst := Option.some 54, op := Go.Op.pick (Go.Operand.tmp 46) (Go.Operand.const (Go.Value.bool Bool.true)) (Go.Operand.tmp 53), type := 4, pos := "l14_pairs.go:25", after := #[{ on := 2, ground := Go.Ground.data }, { on := 9, ground := Go.Ground.data }], guard := Option.none }, { dst := Option.some 55, op := Go.Op.move (Go.Operand.tmp 54), type := 4, pos := "l14_pairs.go:25", after := #[{ on := 10, ground := Go.Ground.data }, { on := 2, ground := Go.Ground.chain }], guard := Option.none }, { dst := Option.some 56, op := Go.Op.move (Go.Operand.tmp 0), type := 31, pos := "l14_pairs.go:25", after := #[{ on := 11, ground := Go.Ground.guard }], guard := Option.some (11, Bool.false) }, { dst := Option.some 57, op := Go.Op.move (Go.Operand.tmp 7), type := 3, pos := "l14_pairs.go:25", after := #[{ on := 11, ground := Go.Ground.guard }], guard := Option.some (11, Bool.false) }, { dst := Option.some 58, op := Go.Op.binOp Go.BinOp.sub 3 (Go.Operand.tmp 57) (Go.Operand.const (Go.Value.int Go.IntKind.i64 1)) 3, type := 3, pos := "l14_pairs.go:25", after := #[{ on := 13, ground := Go.Ground.data }, { on := 11, ground := Go.Ground.guard }], guard := Option.some (11, Bool.false) }, { dst := Option.some 59, op := Go.Op.indexAddr 31 (Go.Operand.tmp 56) (Go.Operand.tmp 58), type := 0, pos := "l14_pairs.go:25", after := #[{ on := 12, ground := Go.Ground.data }, { on := 14, ground := Go.Ground.data }, { on := 11, ground := Go.Ground.guard }], guard := Option.some (11, Bool.false) }, { dst := Option.some 60, op := Go.Op.fieldAddr 61 (Go.Operand.tmp 59) 1, type := 0, pos := "l14_pairs.go:25", after := #[{ on := 15, ground := Go.Ground.data }, { on := 11, ground := Go.Ground.guard }], guard := Option.some (11, Bool.false) }, { dst := Option.some 61, op := Go.Op.load 9 (Go.Operand.tmp 60), type := 9, pos := "l14_pairs.go:25", after := #[{ on := 16, ground := Go.Ground.data }, { on := 11, ground := Go.Ground.guard }], guard := Option.some (11, Bool.false) }, { dst := Option.some 62, op := Go.Op.binOp Go.BinOp.neq 9 (Go.Operand.tmp 61) (Go.Operand.const (Go.Value.string { data := #[73, 78] })) 9, type := 4, pos := "l14_pairs.go:25", after := #[{ on := 17, ground := Go.Ground.data }, { on := 11, ground := Go.Ground.guard }], guard := Option.some (11, Bool.false) }, { dst := Option.some 63, op := Go.Op.move (Go.Operand.tmp 62), type := 4, pos := "l14_pairs.go:25", after := #[{ on := 18, ground := Go.Ground.data }, { on := 11, ground := Go.Ground.chain }, { on := 11, ground := Go.Ground.guard }], guard := Option.some (11, Bool.false) }, { dst := Option.some 64, op := Go.Op.move (Go.Operand.tmp 0), type := 31, pos := "l14_pairs.go:25", after := #[{ on := 19, ground := Go.Ground.guard }], guard := Option.some (19, Bool.true) }, { dst := Option.some 65, op := Go.Op.move (Go.Operand.tmp 7), type := 3, pos := "l14_pairs.go:25", after := #[{ on := 19, ground := Go.Ground.guard }], guard := Option.some (19, Bool.true) }, { dst := Option.some 66, op := Go.Op.binOp Go.BinOp.sub 3 (Go.Operand.tmp 65) (Go.Operand.const (Go.Value.int Go.IntKind.i64 1)) 3, type := 3, pos := "l14_pairs.go:25", after := #[{ on := 21, ground := Go.Ground.data }, { on := 19, ground := Go.Ground.guard }], guard := Option.some (19, Bool.true) }, { dst := Option.some 67, op := Go.Op.indexAddr 31 (Go.Operand.tmp 64) (Go.Operand.tmp 66), type := 0, pos := "l14_pairs.go:25", after := #[{ on := 20, ground := Go.Ground.data }, { on := 22, ground := Go.Ground.data }, { on := 19, ground := Go.Ground.guard }], guard := Option.some (19, Bool.true) }, { dst := Option.some 68, op := Go.Op.fieldAddr 61 (Go.Operand.tmp 67) 1, type := 0, pos := "l14_pairs.go:25", after := #[{ on := 23, ground := Go.Ground.data }, { on := 19, ground := Go.Ground.guard }], guard := Option.some (19, Bool.true) }, { dst := Option.some 69, op := Go.Op.load 9 (Go.Operand.tmp 68), type := 9, pos := "l14_pairs.go:25", after := #[{ on := 24, ground := Go.Ground.data }, { on := 19, ground := Go.Ground.guard }], guard := Option.some (19, Bool.true) }, { dst := Option.some 70, op := Go.Op.binOp Go.BinOp.neq 9 (Go.Operand.tmp 69) (Go.Operand.const (Go.Value.string { data := #[69, 88, 73, 83, 84, 83] })) 9, type := 4, pos := "l14_pairs.go:25", after := #[{ on := 25, ground := Go.Ground.data }, { on := 19, ground := Go.Ground.guard }], guard := Option.some (19, Bool.true) }, { dst := Option.some 71, op := Go.Op.pick (Go.Operand.tmp 63) (Go.Operand.tmp 70) (Go.Operand.const (Go.Value.bool Bool.false)), type := 4, pos := "l14_pairs.go:25", after := #[{ on := 19, ground := Go.Ground.data }, { on := 26, ground := Go.Ground.data }, { on := 11, ground := Go.Ground.guard }], guard := Option.some (11, Bool.false) }, { dst := Option.some 72, op := Go.Op.pick (Go.Operand.tmp 55) (Go.Operand.const (Go.Value.bool Bool.true)) (Go.Operand.tmp 71), type := 4, pos := "l14_pairs.go:25", after := #[{ on := 11, ground := Go.Ground.data }, { on := 27, ground := Go.Ground.data }], guard := Option.none }] Bool.false
def pR15 : Go.Code := Go.Code.region 15 #[{ dst := Option.some 73, op := Go.Op.move (Go.Operand.tmp 3), type := 33, pos := "l14_pairs.go:26", after := #[], guard := Option.none }, { dst := Option.some 74, op := Go.Op.move (Go.Operand.tmp 7), type := 3, pos := "l14_pairs.go:26", after := #[], guard := Option.none }, { dst := Option.some 75, op := Go.Op.move (Go.Operand.tmp 5), type := 3, pos := "l14_pairs.go:26", after := #[], guard := Option.none }, { dst := Option.some 76, op := Go.Op.buildSlice 45 2 #[(0, Go.Operand.tmp 74), (1, Go.Operand.tmp 75)], type := 45, pos := "l14_pairs.go:26", after := #[{ on := 1, ground := Go.Ground.data }, { on := 2, ground := Go.Ground.data }], guard := Option.none }, { dst := Option.some 77, op := Go.Op.buildSlice 33 1 #[(0, Go.Operand.tmp 76)], type := 33, pos := "l14_pairs.go:26", after := #[{ on := 3, ground := Go.Ground.data }], guard := Option.none }, { dst := Option.some 78, op := Go.Op.call { callee := Go.Callee.builtin Go.Builtin.append, args := #[Go.Operand.tmp 73, Go.Operand.tmp 77], argTypes := #[33, 33] }, type := 33, pos := "l14_pairs.go:26", after := #[{ on := 0, ground := Go.Ground.data }, { on := 4, ground := Go.Ground.data }], guard := Option.none }, { dst := Option.some 3, op := Go.Op.assign (Go.Operand.tmp 78), type := 33, pos := "l14_pairs.go:26", after := #[{ on := 5, ground := Go.Ground.data }, { on := 5, ground := Go.Ground.chain }, { on := 0, ground := Go.Ground.phase }, { on := 1, ground := Go.Ground.phase }, { on := 2, ground := Go.Ground.phase }, { on := 3, ground := Go.Ground.phase }, { on := 4, ground := Go.Ground.phase }, { on := 5, ground := Go.Ground.phase }], guard := Option.none }] Bool.false
def pR16 : Go.Code := Go.Code.region 16 #[{ dst := Option.some 79, op := Go.Op.binOp Go.BinOp.add 3 (Go.Operand.tmp 12) (Go.Operand.const (Go.Value.int Go.IntKind.i64 1)) 3, type := 3, pos := "l14_pairs.go:12", after := #[], guard := Option.none }, { dst := Option.some 12, op := Go.Op.move (Go.Operand.tmp 79), type := 3, pos := "l14_pairs.go:12", after := #[{ on := 0, ground := Go.Ground.data }], guard := Option.none }] Bool.false
def pR17 : Go.Code := Go.Code.region 17 #[{ dst := Option.some 80, op := Go.Op.move (Go.Operand.tmp 3), type := 33, pos := "l14_pairs.go:30", after := #[], guard := Option.none }, { dst := Option.some 81, op := Go.Op.call { callee := Go.Callee.value (Go.Operand.func 38), args := #[Go.Operand.tmp 80, Go.Operand.func 39], argTypes := #[33, 64] }, type := 0, pos := "l14_pairs.go:30", after := #[{ on := 0, ground := Go.Ground.data }], guard := Option.none }] Bool.false
def pR18 : Go.Code := Go.Code.region 18 #[{ dst := Option.some 82, op := Go.Op.move (Go.Operand.tmp 3), type := 33, pos := "l14_pairs.go:31", after := #[], guard := Option.none }, { dst := Option.some 2, op := Go.Op.assign (Go.Operand.tmp 82), type := 33, pos := "l14_pairs.go:31", after := #[{ on := 0, ground := Go.Ground.data }, { on := 0, ground := Go.Ground.phase }], guard := Option.none }] Bool.false
def pRB : Go.Code := (pR4.seq ((Go.Code.cond (Go.Operand.tmp 13) Go.Code.skip (Go.Code.exit 0)).seq ((Go.Code.block 1 (pR5.seq ((pR6.seq (Go.Code.cond (Go.Operand.tmp 19) (Go.Code.exit 1) Go.Code.skip)).seq (pR7.seq (Go.Code.block 2 (pR8.seq (Go.Code.cond (Go.Operand.tmp 22) pR9 (pR10.seq (Go.Code.cond (Go.Operand.tmp 28) ((pR11.seq (Go.Code.cond (Go.Operand.tmp 32) (Go.Code.exit 1) Go.Code.skip)).seq (pR12.seq (pR13.seq (pR14.seq (Go.Code.cond (Go.Operand.tmp 72) pR15 Go.Code.skip))))) Go.Code.skip))))))))).seq pR16)))
theorem pR_body : Tryz.f12.body = Option.some (pR0.seq (pR1.seq (pR2.seq ((pR3.seq (Go.Code.block 0 pRB.loop)).seq (pR17.seq (pR18.seq Go.Code.ret)))))) := by kernel_rfl
theorem pr4 {K : KX} {f : Rg} {w : World} {i n : Int} (h12 : f 12 = .c (.v (.int .i64 i))) (h11 : f 11 = .c (.v (.int .i64 n))) (hk : ∀ (f' : Rg) , f' 13 = .c (.v (.bool (decide (i < n)))) → (∀ j, j ∉ [13] → f' j = f j) → K .normal f' w) : xc Tryz.prog 83 pR4 K f w := by
 simp (maxSteps := 10000000) only [tt, Go.Cx.xc, Go.Cx.xl, Go.Cx.xOp, Go.Cv.cg0, Go.Cv.cOp, seval, pR4, h12, h11]
 exact hk _ rfl (fun j hj => by simp only [List.mem_cons, List.not_mem_nil, or_false] at hj; simp only [upd, hj, if_false])
theorem pr5 {K : KX} {f : Rg} {w : World} {b0 o n cap i : Nat} {t : Tok} (h10 : f 10 = .c (.v (.slice (some ⟨b0, o, none⟩) n cap))) (h12 : f 12 = .c (.v (.int .i64 (i : Nat)))) (hi : i < n) (c0 : w.cell? ⟨b0, o + i * 3, none⟩ = some (.int .i64 t.kind)) (c1 : w.cell? ⟨b0, o + i * 3 + 1, none⟩ = some (.string t.text)) (c2 : w.cell? ⟨b0, o + i * 3 + 2, none⟩ = some (.int .i64 t.at_)) (hk : ∀ (f' : Rg) (w' : World) , f' 5 = .c (.v (.int .i64 (i : Nat))) ∧ (∃ b ty, f' 6 = .c (.v (.pointer (some ⟨b, 0, none⟩))) ∧ w'.heap[b]? = some (.cells #[.int .i64 t.kind, .string t.text, .int .i64 t.at_] ty (0, 0)) ∧ w.heap.size ≤ b) ∧ Gr w w' → (∀ j, j ∉ [14, 15, 16, 6, 5] → f' j = f j) → K .normal f' w') : xc Tryz.prog 83 pR5 K f w := by
 simp (maxSteps := 10000000) only [tt, Go.Cx.xc, Go.Cx.xl, Go.Cx.xOp, Go.Cx.xStoreP, Go.Cv.cg0, Go.Cv.cOp, Go.Cv.cLoadA, Go.Cv.cStore, Go.Cv.cAlloc, Go.Vc.oneCell, seval, pR5, h10, h12]
 refine ⟨by omega, by omega, [.int .i64 t.kind, .string t.text, .int .i64 t.at_], rfl, fun j v hj => ?_, fun b w1 hb1 hw1 => ⟨rfl, ?_⟩⟩
 ·match j, hj with
  | 0, hj => cases hj; exact c0
  | 1, hj => cases hj; exact c1
  | 2, hj => cases hj; exact c2
  | j + 3, hj => simp at hj
 ·obtain ⟨hx, g1⟩ := box_new hb1 hw1
  refine ⟨_, _, _, hx, Lh.zero _, by simp, by simp [Value.oneCell'], _, rfl, Stp.go (hk _ _ ⟨rfl, ⟨b, 61, rfl, ?_, by omega⟩, ?_⟩ (fun j hj => by simp only [List.mem_cons, List.not_mem_nil, or_false, not_or] at hj; simp only [upd, hj, if_false]))⟩
  ·exact setRow_heap w1 b _ _ _ _ hx
  ·exact ⟨by simpa using g1.size, fun x hx => (setRow_other w1 b x _ (by omega)).trans (g1.keep x hx), g1.os, g1.tape, g1.output⟩
theorem pr6 {K : KX} {f : Rg} {w : World} {b ty : Nat} {t : Tok} (h6 : f 6 = .c (.v (.pointer (some ⟨b, 0, none⟩)))) (hb : w.heap[b]? = some (.cells #[.int .i64 t.kind, .string t.text, .int .i64 t.at_] ty (0, 0))) (hk : ∀ (f' : Rg) , f' 19 = .c (.v (.bool (!decide (t.kind = 5)))) → (∀ j, j ∉ [17, 18, 19] → f' j = f j) → K .normal f' w) : xc Tryz.prog 83 pR6 K f w := by
 simp (maxSteps := 10000000) only [tt, Go.Cx.xc, Go.Cx.xl, Go.Cx.xOp, Go.Cv.cg0, Go.Cv.cOp, Go.Cv.cLoad, Nat.add_zero, seval, pR6, h6]
 refine ⟨_, box_cell hb (j := 0) rfl, ?_⟩
 simp (maxSteps := 10000000) only [tt, seval]
 exact hk _ rfl (fun j hj => by simp only [List.mem_cons, List.not_mem_nil, or_false, not_or] at hj; simp only [upd, hj, if_false])
theorem pr7 {K : KX} {f : Rg} {w : World} {b ty : Nat} {t : Tok} (h6 : f 6 = .c (.v (.pointer (some ⟨b, 0, none⟩)))) (hb : w.heap[b]? = some (.cells #[.int .i64 t.kind, .string t.text, .int .i64 t.at_] ty (0, 0))) (hk : ∀ (f' : Rg) , f' 21 = .c (.v (.string t.text)) → (∀ j, j ∉ [20, 21] → f' j = f j) → K .normal f' w) : xc Tryz.prog 83 pR7 K f w := by
 simp (maxSteps := 10000000) only [tt, Go.Cx.xc, Go.Cx.xl, Go.Cx.xOp, Go.Cv.cg0, Go.Cv.cOp, Go.Cv.cLoad, seval, pR7, h6]
 refine ⟨_, box_cell hb (j := 1) rfl, ?_⟩
 simp (maxSteps := 10000000) only [seval]
 exact hk _ rfl (fun j hj => by simp only [List.mem_cons, List.not_mem_nil, or_false, not_or] at hj; simp only [upd, hj, if_false])
theorem pr8 {K : KX} {f : Rg} {w : World} {s : ByteArray} (h21 : f 21 = .c (.v (.string s))) (hk : ∀ (f' : Rg) , f' 22 = .c (.v (.bool (decide (s = ⟨#[40]⟩)))) → (∀ j, j ∉ [22, 23] → f' j = f j) → K .normal f' w) : xc Tryz.prog 83 pR8 K f w := by
 simp (maxSteps := 10000000) only [tt, Go.Cx.xc, Go.Cx.xl, Go.Cx.xOp, Go.Cv.cg0, Go.Cv.cOp, seval, pR8, h21]
 exact hk _ rfl (fun j hj => by simp only [List.mem_cons, List.not_mem_nil, or_false, not_or] at hj; simp only [upd, hj, if_false])
theorem pr9 {K : KX} {f : Rg} {w : World} {vs : Value} {xs : List Value} {F : List Nat} {i : Nat} (h4 : f 4 = .c (.v vs)) (h5 : f 5 = .c (.v (.int .i64 (i : Nat)))) (hS : Stk w xs vs F) (hl : xs.length ≤ 2097152) (hk : ∀ (f' : Rg) (w' : World) , (∃ v F', f' 4 = .c (.v v) ∧ Stk w' (xs ++ [.int .i64 (i : Nat)]) v F' ∧ (∀ y, y ∈ F' → y ∈ F ∨ w.heap.size ≤ y)) ∧ ChL F w w' → (∀ j, j ∉ [24, 25, 26, 27, 4] → f' j = f j) → K .normal f' w') : xc Tryz.prog 83 pR9 K f w := by
 obtain ⟨a, cap, rfl, hnc, hcm, hrest⟩ := id hS
 simp (maxSteps := 10000000) only [tt, Go.Cx.xc, Go.Cx.xl, Go.Cx.xOp, Go.Cv.cg0, Go.Cv.cOp, seval, pR9, h4, h5, Go.Cx.xBuildS, Go.Cx.valsV, Go.Cx.cellsL]
 refine ⟨by kernel_rfl, fun v hv => by rw [List.mem_singleton.1 hv]; rfl, fun b w1 hb hw => ?_⟩
 obtain ⟨hx, g1⟩ := box_new hb hw
 refine Stk.push (e := 3) (bytes := 8) (eu := 3) (by kernel_rfl) (by kernel_rfl) (by kernel_rfl) (hS.keep (g1.chl []) (by simp)) (x := .int .i64 (i : Nat)) ⟨rfl, .inr ⟨b, 0, rfl, fun j v hj => ?_⟩⟩ rfl ⟨by simp only [maxLen]; omega, by omega⟩ fun v w2 F' hS2 hF g2 => ?_
 ·exact box_cells (cs := [.int .i64 (i : Nat)]) (r := []) (va := [.int .i64 (i : Nat)]) hx rfl j v hj
 simp (maxSteps := 10000000) only [tt, seval]
 exact hk _ _ ⟨⟨v, F', rfl, hS2, fun y hy => (hF y hy).imp id fun h => Nat.le_trans g1.size h⟩, (g1.chl F).trans g2⟩ (fun j hj => by simp only [List.mem_cons, List.not_mem_nil, or_false, not_or] at hj; simp only [upd, hj, if_false])
theorem pr10 {K : KX} {f : Rg} {w : World} {s : ByteArray} (h21 : f 21 = .c (.v (.string s))) (hk : ∀ (f' : Rg) , f' 28 = .c (.v (.bool (decide (s = ⟨#[41]⟩)))) → (∀ j, j ∉ [28, 29] → f' j = f j) → K .normal f' w) : xc Tryz.prog 83 pR10 K f w := by
 simp (maxSteps := 10000000) only [tt, Go.Cx.xc, Go.Cx.xl, Go.Cx.xOp, Go.Cv.cg0, Go.Cv.cOp, seval, pR10, h21]
 exact hk _ rfl (fun j hj => by simp only [List.mem_cons, List.not_mem_nil, or_false, not_or] at hj; simp only [upd, hj, if_false])
theorem pr11 {K : KX} {f : Rg} {w : World} {a : Option Addr} {n cap : Nat} (h4 : f 4 = .c (.v (.slice a n cap))) (hk : ∀ (f' : Rg) , f' 32 = .c (.v (.bool (decide (n = 0)))) → (∀ j, j ∉ [30, 31, 32] → f' j = f j) → K .normal f' w) : xc Tryz.prog 83 pR11 K f w := by
 simp (maxSteps := 10000000) only [tt, Go.Cx.xc, Go.Cx.xl, Go.Cx.xOp, Go.Cv.cg0, Go.Cv.cOp, seval, pR11, h4]
 have e : decide ((n : Int) = 0) = decide (n = 0) := by congr 1; exact propext (by omega)
 rw [e]
 exact hk _ rfl (fun j hj => by simp only [List.mem_cons, List.not_mem_nil, or_false, not_or] at hj; simp only [upd, hj, if_false])
theorem pr12 {K : KX} {f : Rg} {w : World} {a : Option Addr} {n cap : Nat} {xs : List Value} {x : Value} {F : List Nat} (h4 : f 4 = .c (.v (.slice a (n + 1) cap))) (hS : Stk w (xs ++ [x]) (.slice a (n + 1) cap) F) (hn : n ≤ 2097152) (hk : ∀ (f' : Rg) , f' 7 = .c (.v x) → (∀ j, j ∉ [33, 34, 35, 36, 37, 38, 7] → f' j = f j) → K .normal f' w) : xc Tryz.prog 83 pR12 K f w := by
 have hw : IntKind.i64.wrap (((n + 1 : Nat) : Int) - 1) = (n : Nat) := by rw [wrap_id (n := ((n + 1 : Nat) : Int) - 1) (by omega) (by omega)]; omega
 obtain ⟨b, cap', e, hc⟩ := hS.get (k := xs.length) (by simp)
 injection e with e1 e2 e3
 rw [List.length_append, List.length_singleton] at e2
 obtain rfl : n = xs.length := by omega
 subst e1
 simp (maxSteps := 10000000) only [tt, Go.Cx.xc, Go.Cx.xl, Go.Cx.xOp, Go.Cv.cg0, Go.Cv.cOp, Go.Cv.cLoad, seval, pR12, h4, hw]
 refine ⟨by omega, by omega, x, ?_, ?_⟩
 ·simpa using hc
 exact hk _ rfl (fun j hj => by simp only [List.mem_cons, List.not_mem_nil, or_false, not_or] at hj; simp only [upd, hj, if_false])
theorem pr13 {K : KX} {f : Rg} {w : World} {a : Option Addr} {n cap : Nat} {xs : List Value} {x : Value} {F : List Nat} (h4 : f 4 = .c (.v (.slice a (n + 1) cap))) (hS : Stk w (xs ++ [x]) (.slice a (n + 1) cap) F) (hn : n ≤ 2097152) (hk : ∀ (f' : Rg) , (∃ v, f' 4 = .c (.v v) ∧ Stk w xs v F) → (∀ j, j ∉ [39, 40, 41, 42, 43, 4] → f' j = f j) → K .normal f' w) : xc Tryz.prog 83 pR13 K f w := by
 have hw : IntKind.i64.wrap (((n + 1 : Nat) : Int) - 1) = (n : Nat) := by rw [wrap_id (n := ((n + 1 : Nat) : Int) - 1) (by omega) (by omega)]; omega
 obtain ⟨h1, h2, h3⟩ := hS.pop
 obtain rfl : n = xs.length := by omega
 simp (maxSteps := 10000000) only [tt, Go.Cx.xc, Go.Cx.xl, Go.Cx.xOp, Go.Cv.cg0, Go.Cv.cOp, seval, pR13, h4, hw]
 refine ⟨by omega, by omega, ?_⟩
 exact hk _ ⟨_, rfl, by simpa using h3⟩ (fun j hj => by simp only [List.mem_cons, List.not_mem_nil, or_false, not_or] at hj; simp only [upd, hj, if_false])
set_option maxHeartbeats 4000000 in
theorem pr14 {K : KX} {f : Rg} {w : World} {b0 o cap a : Nat} {L : List Tok} (h0 : f 0 = .c (.v (.slice (some ⟨b0, o, none⟩) L.length cap))) (h7 : f 7 = .c (.v (.int .i64 (a : Nat)))) (ha : a < L.length) (hL : L.length ≤ 1048576) (hc : ∀ i (hi : i < L.length), w.cell? ⟨b0, o + i * 3, none⟩ = some (.int .i64 L[i].kind) ∧ w.cell? ⟨b0, o + i * 3 + 1, none⟩ = some (.string L[i].text) ∧ w.cell? ⟨b0, o + i * 3 + 2, none⟩ = some (.int .i64 L[i].at_)) (hk : ∀ (f' : Rg), f' 72 = .c (.v (.bool (!pAt L a))) → (∀ j, j ∉ [44, 45, 46, 47, 48, 49, 50, 51, 52, 53, 54, 55, 56, 57, 58, 59, 60, 61, 62, 63, 64, 65, 66, 67, 68, 69, 70, 71, 72] → f' j = f j) → K .normal f' w) : xc Tryz.prog 83 pR14 K f w := by
 obtain ⟨e17, e19⟩ : kw 17 = ⟨#[73, 78]⟩ ∧ kw 19 = ⟨#[69, 88, 73, 83, 84, 83]⟩ := by constructor <;> rfl
 by_cases h0a : a = 0
 ·subst h0a
  have hp : pAt L 0 = false := rfl
  rw [hp] at hk
  have h7 : f 7 = .c (.v (.int .i64 0)) := h7
  simp (maxSteps := 10000000) only [tt, Go.Cx.xc, Go.Cx.xl, Go.Cx.xOp, Go.Cv.cg0, Go.Cx.cg_fn, Go.Cx.cg_u, Go.Cx.gv, Go.Cv.cOp, Go.Vc.guardSlot, seval, pR14, h7]
  exact hk _ rfl (fun j hj => by simp only [List.mem_cons, List.not_mem_nil, or_false, not_or] at hj; simp only [upd, hj, if_false])
 have h0b : decide ((a : Int) = 0) = false := decide_eq_false (by omega)
 have hw : IntKind.i64.wrap ((a : Int) - 1) = ((a - 1 : Nat) : Int) := by rw [wrap_id (n := (a : Int) - 1) (by omega) (by omega)]; omega
 obtain ⟨c0, c1, _⟩ := hc (a - 1) (by omega)
 have hp : pAt L a = isIE L[a - 1] := by
  unfold pAt
  rw [if_neg h0a, List.getElem?_eq_getElem (by omega)]
 rw [hp] at hk
 generalize L[a - 1] = t at c0 c1 hk
 unfold isIE at hk
 rw [e17, e19] at hk
 have go : ∀ (x y z : Bool), decide (t.kind = 1) = x → decide (t.text = ⟨#[73, 78]⟩) = y → decide (t.text = ⟨#[69, 88, 73, 83, 84, 83]⟩) = z → xc Tryz.prog 83 pR14 K f w := by
  intro x y z hx hy hz
  rw [hx, hy, hz] at hk
  have cL0 : ∀ d T K f, cLoad Tryz.prog 83 d T ⟨b0, o + (a - 1) * 3, none⟩ K f w = (Go.Vc.tyS Tryz.prog T = .one ∧ K (put 83 f d (.c (.v (.int .i64 t.kind)))) w) := fun _ _ _ _ => cLoad_go c0
  have cL1 : ∀ d T K f, cLoad Tryz.prog 83 d T ⟨b0, o + (a - 1) * 3 + 1, none⟩ K f w = (Go.Vc.tyS Tryz.prog T = .one ∧ K (put 83 f d (.c (.v (.string t.text)))) w) := fun _ _ _ _ => cLoad_go c1
  cases x with
  | false =>
   simp (maxSteps := 10000000) only [tt, Go.Cx.xc, Go.Cx.xl, Go.Cx.xOp, Go.Cv.cg0, Go.Cx.cg_f, Go.Cx.cg_fn, Go.Cx.cg_u, Go.Cx.gv, Go.Cv.cOp, Go.Vc.guardSlot, Nat.add_zero, seval, pR14, h0, h7, h0b, hw, cL0, hx]
   exact ⟨by omega, by omega, hk _ rfl (fun j hj => by simp only [List.mem_cons, List.not_mem_nil, or_false, not_or] at hj; simp only [upd, hj, if_false])⟩
  | true =>
   cases y with
   | true =>
    simp (maxSteps := 10000000) only [tt, Go.Cx.xc, Go.Cx.xl, Go.Cx.xOp, Go.Cv.cg0, Go.Cx.cg_f, Go.Cx.cg_tn, Go.Cx.cg_fn, Go.Cx.cg_u, Go.Cx.gv, Go.Cv.cOp, Go.Vc.guardSlot, Nat.add_zero, seval, pR14, h0, h7, h0b, hw, cL0, cL1, hx, hy]
    exact ⟨by omega, by omega, by omega, by omega, hk _ rfl (fun j hj => by simp only [List.mem_cons, List.not_mem_nil, or_false, not_or] at hj; simp only [upd, hj, if_false])⟩
   | false =>
    simp (maxSteps := 10000000) only [tt, Go.Cx.xc, Go.Cx.xl, Go.Cx.xOp, Go.Cv.cg0, Go.Cx.cg_t, Go.Cx.cg_f, Go.Cx.cg_fn, Go.Cx.cg_u, Go.Cx.gv, Go.Cv.cOp, Go.Vc.guardSlot, Nat.add_zero, seval, pR14, h0, h7, h0b, hw, cL0, cL1, hx, hy, hz]
    exact ⟨by omega, by omega, by omega, by omega, by omega, by omega, hk _ rfl (fun j hj => by simp only [List.mem_cons, List.not_mem_nil, or_false, not_or] at hj; simp only [upd, hj, if_false])⟩
 exact go _ _ _ rfl rfl rfl
theorem pr15 {K : KX} {f : Rg} {w : World} {vo : Value} {ps : List (Nat × Nat)} {F : List Nat} {a i : Nat} (h3 : f 3 = .c (.v vo)) (h7 : f 7 = .c (.v (.int .i64 (a : Nat)))) (h5 : f 5 = .c (.v (.int .i64 (i : Nat)))) (hO : OwnT w [.sl ps.length (ps.flatMap prow)] [vo] F) (hl : ps.length ≤ 2097152) (hk : ∀ (f' : Rg) (w' : World) , (∃ v F', f' 3 = .c (.v v) ∧ OwnT w' [.sl (ps ++ [(a, i)]).length ((ps ++ [(a, i)]).flatMap prow)] [v] F' ∧ (∀ y, y ∈ F' → y ∈ F ∨ w.heap.size ≤ y)) ∧ ChL F w w' → (∀ j, j ∉ [73, 74, 75, 76, 77, 78, 3] → f' j = f j) → K .normal f' w') : xc Tryz.prog 83 pR15 K f w := by
 obtain ⟨v', e', hcell, hwh⟩ := hO.one
 obtain rfl : vo = v' := by simpa using e'
 obtain ⟨ad, cap, rfl, hnc, hcm, hrest⟩ := hcell
 simp (maxSteps := 10000000) only [tt, Go.Cx.xc, Go.Cx.xl, Go.Cx.xOp, Go.Cv.cg0, Go.Cv.cOp, seval, pR15, h3, h7, h5, Go.Cx.xBuildS, Go.Cx.valsV, Go.Cx.cellsL]
 refine ⟨by kernel_rfl, fun v hv => ?_, fun b w1 hb hw => ⟨by kernel_rfl, fun v hv => by rw [List.mem_singleton.1 hv]; rfl, fun b2 w2 hb2 hw2 => ?_⟩⟩
 ·rcases List.mem_cons.1 hv with rfl | hv
  ·rfl
  ·rw [List.mem_singleton.1 hv]; rfl
 obtain ⟨hx, g1⟩ := box_new hb hw
 obtain ⟨hx2, g2⟩ := box_new hb2 hw2
 have hb1 : ∀ x, x ∈ F → x ≠ b := fun x hx e => by
  have := Go.Cv.vis_lt (hO.own.vis x hx)
  omega
 have hI : OwnT w1 [.lit (.int .i64 (a : Nat)), .lit (.int .i64 (i : Nat))] [.int .i64 (a : Nat), .int .i64 (i : Nat)] [] :=
  ⟨vals_cons_mk (F := []) (R := []) (lit_cell trivial) (vals_cons_mk (F := []) (R := []) (lit_cell trivial) vals_nil_mk), List.nodup_nil, OwnL.nil _, ⟨trivial, trivial, trivial⟩⟩
 have hP : OwnT w1 (prow (a, i)) [.slice (some ⟨b, 0, none⟩) 2 2] [b] :=
  hI.outof (sz := 1) (by simp) (box_cells (cs := [.int .i64 (a : Nat), .int .i64 (i : Nat)]) (r := []) hx rfl) hx (Lh.zero _) (Nat.le_refl _) (by simp [maxLen]) rfl (Nat.le_refl _) (by simp)
 have hP2 := hP.keep (g2.chl []) (by simp)
 have hO2 := (hO.keep (g1.chl []) (by simp)).keep (g2.chl []) (by simp)
 refine app_go (e := 45) (sz := 1) (bytes := 24) (eu := 45) (by kernel_rfl) (by kernel_rfl) (by kernel_rfl) (by decide) hO2 (flatMap_len prow_len ps) hP2 (prow_len _) (fun x hx e => hb1 x hx (by simpa using e)) ⟨rfl, .inr ⟨b2, 0, rfl, fun j v hj => box_cells (cs := [.slice (some ⟨b, 0, none⟩) 2 2]) (r := []) (va := [.slice (some ⟨b, 0, none⟩) 2 2]) hx2 rfl j v hj⟩⟩ (fun u hu => by rw [List.mem_singleton.1 hu]; rfl) ⟨by simp only [maxLen]; omega, by omega⟩ fun v w3 F' hO3 hF g3 => ?_
 simp (maxSteps := 10000000) only [tt, seval]
 have e1 : (ps ++ [(a, i)]).length = ps.length + 1 := by simp
 have e2 : (ps ++ [(a, i)]).flatMap prow = ps.flatMap prow ++ prow (a, i) := by simp
 refine hk _ _ ⟨⟨v, F', rfl, by rw [e1, e2]; exact hO3, fun y hy => ?_⟩, ((g1.trans g2).chl F).trans g3⟩ (fun j hj => by simp only [List.mem_cons, List.not_mem_nil, or_false, not_or] at hj; simp only [upd, hj, if_false])
 rcases hF y hy with h | h | h
 ·exact .inl h
 ·rw [List.mem_singleton.1 h]; exact .inr (by omega)
 ·exact .inr (Nat.le_trans (g1.trans g2).size h)
theorem pr16 {K : KX} {f : Rg} {w : World} {i : Nat} (h12 : f 12 = .c (.v (.int .i64 (i : Nat)))) (hi : i ≤ 2097152) (hk : ∀ (f' : Rg) , f' 12 = .c (.v (.int .i64 (i + 1 : Nat))) → (∀ j, j ∉ [79, 12] → f' j = f j) → K .normal f' w) : xc Tryz.prog 83 pR16 K f w := by
 have hw : IntKind.i64.wrap ((i : Int) + 1) = ((i + 1 : Nat) : Int) := by rw [wrS i (by omega)]; omega
 simp (maxSteps := 10000000) only [tt, Go.Cx.xc, Go.Cx.xl, Go.Cx.xOp, Go.Cv.cg0, Go.Cv.cOp, seval, pR16, h12, hw]
 exact hk _ rfl (fun j hj => by simp only [List.mem_cons, List.not_mem_nil, or_false, not_or] at hj; simp only [upd, hj, if_false])
def PrI (w : World) (L : List Tok) (v : Value) (f : Rg) (w' : World) : Prop :=
 ∃ (i : Nat) (os : List Nat) (ps : List (Nat × Nat)) (vo vs : Value) (Fo Fs : List Nat), f 0 = .c (.v v) ∧ f 3 = .c (.v vo) ∧ f 4 = .c (.v vs) ∧ f 10 = .c (.v v) ∧ f 11 = .c (.v (.int .i64 L.length)) ∧ f 12 = .c (.v (.int .i64 (i : Nat))) ∧ i ≤ L.length ∧ StAt L i os ps ∧ ps.length ≤ i ∧ os.length ≤ i ∧
  OwnT w' [.sl ps.length (ps.flatMap prow)] [vo] Fo ∧ Stk w' (os.map fun a : Nat => .int .i64 a) vs Fs ∧ (∀ x, x ∈ Fo → x ∉ Fs) ∧ (∀ x, x ∈ Fo → w.heap.size ≤ x) ∧ (∀ x, x ∈ Fs → w.heap.size ≤ x) ∧ Gr w w' ∧ (ps = [] → ∃ b, vo = .slice (some ⟨b, 0, none⟩) 0 0 ∧ b < w'.heap.size)
theorem PairsOf_round {w : World} {L : List Tok} {v : Value} {G : List Nat} (hL : L.length ≤ 1048576) (h : CellF w (.sl L.length (L.flatMap Tok.row)) v G) (K : KX) (g : Rg) (w3 : World) (hI : PrI w L v g w3)
 (hK : ∀ f w', (∃ os ps vo Fo, f 3 = .c (.v vo) ∧ StAt L L.length os ps ∧ ps.length ≤ L.length ∧ OwnT w' [.sl ps.length (ps.flatMap prow)] [vo] Fo ∧ (∀ x, x ∈ Fo → w.heap.size ≤ x) ∧ Gr w w' ∧ (ps = [] → ∃ b, vo = .slice (some ⟨b, 0, none⟩) 0 0 ∧ b < w'.heap.size)) → K (.exit 0) f w')
 (hN : ∀ f w', PrI w L v f w' → (L.length - ixS (f 12)).toNat < (L.length - ixS (g 12)).toNat → K .normal f w') : xc Tryz.prog 83 pRB K g w3 := by
 obtain ⟨i, os, ps, vo, vs, Fo, Fs, q0, q3, q4, q10, q11, q12, hi, hst, hpi, hoi, hO, hS, hd, hoN, hsN, gr, hE⟩ := hI
 have q12g := q12
 unfold pRB
 refine x_seq (pr4 q12 q11 fun f1 h13 k1 => sq_n (x_seq ?_))
 have q0 := (k1 0 (by decide)).trans q0
 have q3 := (k1 3 (by decide)).trans q3
 have q4 := (k1 4 (by decide)).trans q4
 have q10 := (k1 10 (by decide)).trans q10
 have q11 := (k1 11 (by decide)).trans q11
 have q12 := (k1 12 (by decide)).trans q12
 refine x_cond h13 (fun hlt => x_skip (sq_n ?_)) (fun hge => x_exit (sq_o ?_))
 case refine_2 =>
  obtain rfl : i = L.length := by have := of_decide_eq_false hge; omega
  exact hK f1 w3 ⟨os, ps, vo, Fo, q3, hst, hpi, hO, hoN, gr, hE⟩
 have hlt : i < L.length := by have := of_decide_eq_true hlt; omega
 have hne : L ≠ [] := fun e => by rw [e] at hlt; exact Nat.not_lt_zero _ hlt
 obtain ⟨b0, o, cap, rfl, hb0, hcs⟩ := tok_cells h hne
 have hcw : ∀ {w'}, Gr w w' → ∀ i (hi : i < L.length), w'.cell? ⟨b0, o + i * 3, none⟩ = some (.int .i64 L[i].kind) ∧ w'.cell? ⟨b0, o + i * 3 + 1, none⟩ = some (.string L[i].text) ∧ w'.cell? ⟨b0, o + i * 3 + 2, none⟩ = some (.int .i64 L[i].at_) := fun g i hi => ⟨cell_keep g hb0 (hcs i hi).1, cell_keep g hb0 (hcs i hi).2.1, cell_keep g hb0 (hcs i hi).2.2⟩
 have fin : ∀ (f : Rg) (w' : World) (os : List Nat) (ps : List (Nat × Nat)) (vo vs : Value) (Fo Fs : List Nat), f 0 = .c (.v (.slice (some ⟨b0, o, none⟩) L.length cap)) → f 3 = .c (.v vo) → f 4 = .c (.v vs) → f 10 = .c (.v (.slice (some ⟨b0, o, none⟩) L.length cap)) → f 11 = .c (.v (.int .i64 L.length)) → f 12 = .c (.v (.int .i64 (i : Nat))) → StAt L (i + 1) os ps → ps.length ≤ i + 1 → os.length ≤ i + 1 →
  OwnT w' [.sl ps.length (ps.flatMap prow)] [vo] Fo → Stk w' (os.map fun a : Nat => .int .i64 a) vs Fs → (∀ x, x ∈ Fo → x ∉ Fs) → (∀ x, x ∈ Fo → w.heap.size ≤ x) → (∀ x, x ∈ Fs → w.heap.size ≤ x) → Gr w w' → (ps = [] → ∃ b, vo = .slice (some ⟨b, 0, none⟩) 0 0 ∧ b < w'.heap.size) → xc Tryz.prog 83 pR16 K f w' := by
  intro f w' os ps vo vs Fo Fs q0 q3 q4 q10 q11 q12 hst h1 h2 hO hS hd hoN hsN gr hE
  refine pr16 q12 (by omega) fun f' p12 k => ?_
  have q0 := (k 0 (by decide)).trans q0
  have q3 := (k 3 (by decide)).trans q3
  have q4 := (k 4 (by decide)).trans q4
  have q10 := (k 10 (by decide)).trans q10
  have q11 := (k 11 (by decide)).trans q11
  refine hN f' w' ⟨i + 1, os, ps, vo, vs, Fo, Fs, q0, q3, q4, q10, q11, p12, hlt, hst, h1, h2, hO, hS, hd, hoN, hsN, gr, hE⟩ ?_
  rw [p12, q12g]
  show ((L.length : Int) - ((i + 1 : Nat) : Int)).toNat < ((L.length : Int) - (i : Int)).toNat
  omega
 obtain ⟨c0, c1, c2⟩ := hcw gr i hlt
 refine x_seq (x_block (x_seq (pr5 q10 q12 hlt c0 c1 c2 fun f2 w4 ⟨q5, ⟨b, ty, q6, hb, hbs⟩, g4⟩ k2 => sq_n (x_seq (x_seq ?_)))))
 have q0 := (k2 0 (by decide)).trans q0
 have q3 := (k2 3 (by decide)).trans q3
 have q4 := (k2 4 (by decide)).trans q4
 have q10 := (k2 10 (by decide)).trans q10
 have q11 := (k2 11 (by decide)).trans q11
 have q12 := (k2 12 (by decide)).trans q12
 have gr4 := gr.trans g4
 have hE4 : ps = [] → ∃ b, vo = .slice (some ⟨b, 0, none⟩) 0 0 ∧ b < w4.heap.size := fun e => (hE e).imp fun _ h => ⟨h.1, Nat.lt_of_lt_of_le h.2 g4.size⟩
 have hO4 := hO.keep (g4.chl []) (by simp)
 have hS4 := hS.keep (g4.chl []) (by simp)
 refine pr6 q6 hb fun f3 h19 k3 => sq_n ?_
 have q0 := (k3 0 (by decide)).trans q0
 have q3 := (k3 3 (by decide)).trans q3
 have q4 := (k3 4 (by decide)).trans q4
 have q10 := (k3 10 (by decide)).trans q10
 have q11 := (k3 11 (by decide)).trans q11
 have q12 := (k3 12 (by decide)).trans q12
 have q5 := (k3 5 (by decide)).trans q5
 have q6 := (k3 6 (by decide)).trans q6
 have hpl : ps.length ≤ i + 1 := by omega
 have hol : os.length ≤ i + 1 := by omega
 refine x_cond h19 (fun hk5 => x_exit (sq_o (bk_e (sq_n ?_)))) (fun hk5 => x_skip (sq_n (x_seq ?_)))
 ·have hk5 : ¬ L[i].kind = 5 := by simpa using hk5
  exact fin f3 w4 os ps vo vs Fo Fs q0 q3 q4 q10 q11 q12 (hst.other hlt (by simp [isLP, hk5]) (by simp [isRP, hk5])) hpl hol hO4 hS4 hd hoN hsN gr4 hE4
 have hk5 : L[i].kind = 5 := by simpa using hk5
 refine pr7 q6 hb fun f4 q21 k4 => sq_n (x_block (x_seq ?_))
 have q0 := (k4 0 (by decide)).trans q0
 have q3 := (k4 3 (by decide)).trans q3
 have q4 := (k4 4 (by decide)).trans q4
 have q10 := (k4 10 (by decide)).trans q10
 have q11 := (k4 11 (by decide)).trans q11
 have q12 := (k4 12 (by decide)).trans q12
 have q5 := (k4 5 (by decide)).trans q5
 refine pr8 q21 fun f5 h22 k5 => sq_n ?_
 have q0 := (k5 0 (by decide)).trans q0
 have q3 := (k5 3 (by decide)).trans q3
 have q4 := (k5 4 (by decide)).trans q4
 have q10 := (k5 10 (by decide)).trans q10
 have q11 := (k5 11 (by decide)).trans q11
 have q12 := (k5 12 (by decide)).trans q12
 have q5 := (k5 5 (by decide)).trans q5
 have q21 := (k5 21 (by decide)).trans q21
 refine x_cond h22 (fun hlp => ?_) (fun hlp => x_seq ?_)
 ·have hlp : isLP L[i] = true := by simp only [isLP, hk5, hlp]; rfl
  refine pr9 q4 q5 hS4 (by rw [List.length_map]; omega) fun f6 w6 ⟨⟨v6, F6, p4, hS6, hF6⟩, g6⟩ k6 => bk_n (bk_n (sq_n ?_))
  have q0 := (k6 0 (by decide)).trans q0
  have q3 := (k6 3 (by decide)).trans q3
  have q10 := (k6 10 (by decide)).trans q10
  have q11 := (k6 11 (by decide)).trans q11
  have q12 := (k6 12 (by decide)).trans q12
  refine fin f6 w6 (os ++ [i]) ps vo v6 Fo F6 q0 q3 p4 q10 q11 q12 (hst.opened hlt hlp) hpl (by simp; omega) (hO4.keep g6 hd) (by simpa using hS6) (fun x hx hy => ?_) hoN (fun x hx => ?_) (gr4.chl_trans g6 hsN) (fun e => (hE4 e).imp fun _ h => ⟨h.1, Nat.lt_of_lt_of_le h.2 g6.size⟩)
  ·rcases hF6 x hy with e | e
   ·exact hd x hx e
   ·have := Go.Cv.vis_lt (hO4.own.vis x hx); omega
  ·rcases hF6 x hx with e | e
   ·exact hsN x e
   ·exact Nat.le_trans gr4.size e
 have hlp : isLP L[i] = false := by simp only [isLP, hk5, hlp]; rfl
 refine pr10 q21 fun f6 h28 k6 => sq_n ?_
 have q0 := (k6 0 (by decide)).trans q0
 have q3 := (k6 3 (by decide)).trans q3
 have q4 := (k6 4 (by decide)).trans q4
 have q10 := (k6 10 (by decide)).trans q10
 have q11 := (k6 11 (by decide)).trans q11
 have q12 := (k6 12 (by decide)).trans q12
 have q5 := (k6 5 (by decide)).trans q5
 refine x_cond h28 (fun hrp => x_seq (x_seq ?_)) (fun hrp => x_skip (bk_n (bk_n (sq_n ?_))))
 case refine_2 =>
  exact fin f6 w4 os ps vo vs Fo Fs q0 q3 q4 q10 q11 q12 (hst.other hlt hlp (by simp only [isRP, hk5, hrp]; rfl)) hpl hol hO4 hS4 hd hoN hsN gr4 hE4
 have hrp : isRP L[i] = true := by simp only [isRP, hk5, hrp]; rfl
 obtain ⟨va, vcap, rfl⟩ : ∃ a cap, vs = .slice a os.length cap := by
  obtain ⟨a, cap, e, _⟩ := hS4
  rw [List.length_map] at e
  exact ⟨a, cap, e⟩
 refine pr11 q4 fun f7 h32 k7 => sq_n ?_
 have q0 := (k7 0 (by decide)).trans q0
 have q3 := (k7 3 (by decide)).trans q3
 have q4 := (k7 4 (by decide)).trans q4
 have q10 := (k7 10 (by decide)).trans q10
 have q11 := (k7 11 (by decide)).trans q11
 have q12 := (k7 12 (by decide)).trans q12
 have q5 := (k7 5 (by decide)).trans q5
 refine x_cond h32 (fun hz => x_exit (sq_o (bk_o (by decide) (bk_e (sq_n ?_))))) (fun hz => x_skip (sq_n (x_seq ?_)))
 ·obtain rfl := List.eq_nil_of_length_eq_zero (of_decide_eq_true hz)
  exact fin f7 w4 [] ps vo _ Fo Fs q0 q3 q4 q10 q11 q12 (hst.none hlt hlp) hpl (by simp) hO4 hS4 hd hoN hsN gr4 hE4
 have hz := of_decide_eq_false hz
 obtain ⟨os, a, rfl⟩ : ∃ r a, os = r ++ [a] := by
  rcases List.eq_nil_or_concat os with e | ⟨r, a, e⟩
  ·rw [e] at hz; exact absurd rfl hz
  ·exact ⟨r, a, by rw [e, List.concat_eq_append]⟩
 have el : (os ++ [a]).length = os.length + 1 := by simp
 rw [el] at q4 hS4 hol
 rw [List.map_append, List.map_singleton] at hS4
 obtain ⟨hai, hst2⟩ := hst.shut hlt hlp hrp
 refine pr12 q4 hS4 (by omega) fun f8 q7 k8 => sq_n (x_seq ?_)
 have q0 := (k8 0 (by decide)).trans q0
 have q3 := (k8 3 (by decide)).trans q3
 have q4 := (k8 4 (by decide)).trans q4
 have q10 := (k8 10 (by decide)).trans q10
 have q11 := (k8 11 (by decide)).trans q11
 have q12 := (k8 12 (by decide)).trans q12
 have q5 := (k8 5 (by decide)).trans q5
 refine pr13 q4 hS4 (by omega) fun f9 ⟨v9, p4, hS9⟩ k9 => sq_n (x_seq ?_)
 have q0 := (k9 0 (by decide)).trans q0
 have q3 := (k9 3 (by decide)).trans q3
 have q10 := (k9 10 (by decide)).trans q10
 have q11 := (k9 11 (by decide)).trans q11
 have q12 := (k9 12 (by decide)).trans q12
 have q5 := (k9 5 (by decide)).trans q5
 have q7 := (k9 7 (by decide)).trans q7
 refine pr14 q0 q7 (by omega) hL (hcw gr4) fun f10 h72 k10 => sq_n ?_
 have q4 := p4
 have q0 := (k10 0 (by decide)).trans q0
 have q3 := (k10 3 (by decide)).trans q3
 have q4 := (k10 4 (by decide)).trans q4
 have q10 := (k10 10 (by decide)).trans q10
 have q11 := (k10 11 (by decide)).trans q11
 have q12 := (k10 12 (by decide)).trans q12
 have q5 := (k10 5 (by decide)).trans q5
 have q7 := (k10 7 (by decide)).trans q7
 refine x_cond h72 (fun hp => ?_) (fun hp => x_skip (bk_n (bk_n (sq_n ?_))))
 ·have hp : ¬ pAt L a = true := by simpa using hp
  rw [if_neg hp] at hst2
  refine pr15 q3 q7 q5 hO4 (by omega) fun f11 w11 ⟨⟨v11, F11, p3, hO11, hF11⟩, g11⟩ k11 => bk_n (bk_n (sq_n ?_))
  have q0 := (k11 0 (by decide)).trans q0
  have q4 := (k11 4 (by decide)).trans q4
  have q10 := (k11 10 (by decide)).trans q10
  have q11 := (k11 11 (by decide)).trans q11
  have q12 := (k11 12 (by decide)).trans q12
  refine fin f11 w11 os (ps ++ [(a, i)]) v11 v9 F11 Fs q0 p3 q4 q10 q11 q12 hst2 (by simp; omega) (by omega) hO11 (hS9.keep g11 fun x hx hy => hd x hy hx) (fun x hx hy => ?_) (fun x hx => ?_) hsN (gr4.chl_trans g11 hoN) (fun e => by simp at e)
  ·rcases hF11 x hx with e | e
   ·exact hd x e hy
   ·have := hS9.lt x hy; omega
  ·rcases hF11 x hx with e | e
   ·exact hoN x e
   ·exact Nat.le_trans gr4.size e
 ·have hp : pAt L a = true := by simpa using hp
  rw [if_pos hp] at hst2
  exact fin f10 w4 os ps vo v9 Fo Fs q0 q3 q4 q10 q11 q12 hst2 hpl (by omega) hO4 hS9 hd hoN hsN gr4 hE4
end Go.Proofs.YtoegnikpokgbfaaGreatDoor
set_option maxRecDepth 8000
namespace Go.Proofs.YtoegnikpokgbfaaGreatDoor
open Go Go.Dv
open Go.Vc (D shrI xorI andI and255)
open Go.Vc (D shrI xorI andI and255 okV CellF ValsF Cells)
open Go.Shelf
def Tryz.sortP_ren : Go.Shelf.Ren := ⟨fun | 6 => 38 | 15 => 97 | 14 => 96 | 28 => 162 | 29 => 163 | 20 => 154 | 21 => 155 | 22 => 156 | 23 => 157 | 24 => 158 | 25 => 159 | 26 => 160 | 27 => 161 | 46 => 212 | 47 => 213 | 48 => 214 | 49 => 215 | 50 => 216 | 57 => 237 | n => n, fun | 22 => 33 | 24 => 45 | 25 => 64 | 3 => 3 | 39 => 113 | 0 => 0 | 53 => 165 | 55 => 167 | 4 => 4 | 46 => 158 | 45 => 157 | 50 => 162 | 5 => 5 | 9 => 9 | 66 => 198 | 70 => 202 | 76 => 216 | 77 => 217 | n => n, fun | n => n⟩
theorem Tryz.sortP : Go.Proofs.SlLaysF.n6 Tryz.prog Tryz.sortP_ren := {
 mixed := by kernel_rfl
 f6 := ⟨Tryz.f38.name, by decide, Tryz.func38.trans (congrArg some (by kernel_rfl))⟩
 f14 := ⟨Tryz.f96.name, by decide, Tryz.func96.trans (congrArg some (by kernel_rfl))⟩
 f15 := Tryz.func97.trans (congrArg some (by kernel_rfl))
 f20 := ⟨Tryz.f154.name, by decide, Tryz.func154.trans (congrArg some (by kernel_rfl))⟩
 f21 := ⟨Tryz.f155.name, by decide, Tryz.func155.trans (congrArg some (by kernel_rfl))⟩
 f22 := ⟨Tryz.f156.name, by decide, Tryz.func156.trans (congrArg some (by kernel_rfl))⟩
 f23 := ⟨Tryz.f157.name, by decide, Tryz.func157.trans (congrArg some (by kernel_rfl))⟩
 f24 := ⟨Tryz.f158.name, by decide, Tryz.func158.trans (congrArg some (by kernel_rfl))⟩
 f25 := ⟨Tryz.f159.name, by decide, Tryz.func159.trans (congrArg some (by kernel_rfl))⟩
 f26 := ⟨Tryz.f160.name, by decide, Tryz.func160.trans (congrArg some (by kernel_rfl))⟩
 f27 := ⟨Tryz.f161.name, by decide, Tryz.func161.trans (congrArg some (by kernel_rfl))⟩
 f28 := Tryz.func162.trans (congrArg some (by kernel_rfl))
 f29 := Tryz.func163.trans (congrArg some (by kernel_rfl))
 f46 := ⟨Tryz.f212.name, by decide, Tryz.func212.trans (congrArg some (by kernel_rfl))⟩
 f47 := Tryz.func213.trans (congrArg some (by kernel_rfl))
 f48 := Tryz.func214.trans (congrArg some (by kernel_rfl))
 f49 := ⟨Tryz.f215.name, by decide, Tryz.func215.trans (congrArg some (by kernel_rfl))⟩
 f50 := ⟨Tryz.f216.name, by decide, Tryz.func216.trans (congrArg some (by kernel_rfl))⟩
 f57 := ⟨Tryz.f237.name, by decide, Tryz.func237.trans (congrArg some (by kernel_rfl))⟩
 t0 := Tryz.underlying0
 a0 := Tryz.isAgg0
 z0 := Tryz.sizeOf0
 v0 := Tryz.zeroValue0
 t3 := Tryz.underlying3
 a3 := Tryz.isAgg3
 z3 := Tryz.sizeOf3
 v3 := Tryz.zeroValue3
 t4 := Tryz.underlying4
 a4 := Tryz.isAgg4
 z4 := Tryz.sizeOf4
 v4 := Tryz.zeroValue4
 t5 := Tryz.underlying5
 a5 := Tryz.isAgg5
 z5 := Tryz.sizeOf5
 v5 := Tryz.zeroValue5
 t9 := Tryz.underlying9
 a9 := Tryz.isAgg9
 z9 := Tryz.sizeOf9
 v9 := Tryz.zeroValue9
 t22 := Tryz.underlying33
 a22 := Tryz.isAgg33
 z22 := Tryz.sizeOf33
 v22 := Tryz.zeroValue33
 a24 := Tryz.isAgg45
 z24 := Tryz.sizeOf45
 t25 := Tryz.underlying64
 a25 := Tryz.isAgg64
 z25 := Tryz.sizeOf64
 v25 := Tryz.zeroValue64
 t39 := Tryz.underlying113
 a39 := Tryz.isAgg113
 z39 := Tryz.sizeOf113
 v39 := Tryz.zeroValue113
 t45 := Tryz.underlying157
 a45 := Tryz.isAgg157
 z45 := Tryz.sizeOf157
 v45 := Tryz.zeroValue157
 t46 := Tryz.underlying158
 a46 := Tryz.isAgg158
 z46 := Tryz.sizeOf158
 v46 := Tryz.zeroValue158
 t50 := Tryz.underlying162
 a50 := Tryz.isAgg162
 z50 := Tryz.sizeOf162
 v50 := Tryz.zeroValue162
 t53 := Tryz.underlying165
 a53 := Tryz.isAgg165
 z53 := Tryz.sizeOf165
 v53 := Tryz.zeroValue165
 t55 := Tryz.underlying167
 a55 := Tryz.isAgg167
 z55 := Tryz.sizeOf167
 v55 := Tryz.zeroValue167
 t66 := Tryz.underlying198
 a66 := Tryz.isAgg198
 z66 := Tryz.sizeOf198
 v66 := Tryz.zeroValue198
 t70 := Tryz.underlying202
 a70 := Tryz.isAgg202
 z70 := Tryz.sizeOf202
 v70 := Tryz.zeroValue202
 t76 := Tryz.underlying216
 a76 := Tryz.isAgg216
 z76 := Tryz.sizeOf216
 v76 := Tryz.zeroValue216
 t77 := Tryz.underlying217
 a77 := Tryz.isAgg217
 z77 := Tryz.sizeOf217
 v77 := Tryz.zeroValue217 }
def Tryz.cmpI_ren : Go.Shelf.Ren := ⟨fun | 5 => 40 | 7 => 98 | n => n, fun | 22 => 3 | 3 => 3 | 4 => 4 | n => n, fun | n => n⟩
theorem Tryz.cmpI : Go.Proofs.SlLaysC2.n5 Tryz.prog Tryz.cmpI_ren := {
 mixed := by kernel_rfl
 f5 := ⟨Tryz.f40.name, by decide, Tryz.func40.trans (congrArg some (by kernel_rfl))⟩
 f7 := ⟨Tryz.f98.name, by decide, Tryz.func98.trans (congrArg some (by kernel_rfl))⟩
 t3 := Tryz.underlying3
 a3 := Tryz.isAgg3
 z3 := Tryz.sizeOf3
 v3 := Tryz.zeroValue3
 t4 := Tryz.underlying4
 a4 := Tryz.isAgg4
 z4 := Tryz.sizeOf4
 v4 := Tryz.zeroValue4
 t22 := Tryz.underlying3
 a22 := Tryz.isAgg3
 z22 := Tryz.sizeOf3
 v22 := Tryz.zeroValue3 }
open Go.Cv Go.Cx
set_option maxHeartbeats 1000000 in
theorem clo_raw {W : World} {b b' n c n' c' : Nat} {x y : Int} (hx : W.cell? ⟨b, 0, none⟩ = some (.int .i64 x)) (hy : W.cell? ⟨b', 0, none⟩ = some (.int .i64 y)) (hn : 0 < n) (hn' : 0 < n') :
 Calls Tryz.prog 39 #[.slice (some ⟨b, 0, none⟩) n c, .slice (some ⟨b', 0, none⟩) n' c'] W fun e w' => e = .returned (.int .i64 (Go.Lib.compareInt x y)) ∧ ∃ q, w' = Go.World.drewN W q := by
 have hc : Calls Tryz.prog 40 #[.int .i64 x, .int .i64 y] W.drew fun e w' => ∃ v, e = .returned v ∧ v = .int .i64 (Go.Lib.compareInt x y) ∧ w' = W.drew :=
  (AnyG.cmp_Compare_int Tryz.cmpI x y W.drew).mono fun _ _ ⟨h1, h2⟩ => ⟨_, h1, rfl, h2⟩
 refine Calls.mono (@calls_of_x _ W 39 Tryz.f39 _ [.slice (some ⟨b, 0, none⟩) n c, .slice (some ⟨b', 0, none⟩) n' c'] (fun v w' => v = .int .i64 (Go.Lib.compareInt x y) ∧ w' = W.drew) Tryz.func39 rfl (Nat.le_of_ble_eq_true rfl) ?_) fun e w' ⟨v, h1, h2, h3⟩ => ⟨by rw [h1, h2], 1, h3⟩
 simp (maxSteps := 10000000) only [tt, Go.Cx.xc, Go.Cx.xl, Go.Cx.xOp, Go.Cv.cg0, Go.Cv.cOp, Go.Cv.cEnd, Go.Cv.cRet, Go.Cv.regsV, seval, Tryz.f39]
 refine ⟨follows_mixed, ⟨by kernel_rfl, (pln [0, 2, 4, 6, 8, 10, 13, 14]), by kernel_rfl, fun w1 hw1 => ?_⟩⟩
 have c0 : w1.cell? ⟨b, 0, none⟩ = some (.int .i64 x) := by rw [hw1]; exact hx
 have c1 : w1.cell? ⟨b', 0, none⟩ = some (.int .i64 y) := by rw [hw1]; exact hy
 simp (maxSteps := 10000000) only [tt, Go.Cx.xOp, Go.Cx.xCall, Go.Cx.xPlan, pln, Go.Cv.cg0, Go.Cv.cOp, Go.Cv.cLoad, Go.Cx.argsW, Nat.add_zero, seval]
 refine ⟨by omega, _, c0, ?_⟩
 refine ⟨by omega, _, c1, ?_⟩
 refine ⟨by kernel_rfl, _, by rw [hw1]; exact hc, fun v w' hv => Stp.go ?_⟩
 obtain ⟨rfl, rfl⟩ := hv
 simp (maxSteps := 10000000) only [tt, seval]
theorem sw_heap {α : Type} [Inhabited α] (enc : α → Value) {w : World} {blk m : Nat} {d : Array α} {os : Array Obj} {cur : Array Value} {t : TypeId} {fz : Nat × Nat} (hb : w.heap[blk]? = some (.cells cur t fz)) :
 (sortWorld enc w blk 0 m d os).heap[blk]? = some (.cells (Go.Sort.putCells enc 0 d cur) t fz) ∧ ChL [blk] w (sortWorld enc w blk 0 m d os) := by
 have hlt := (Array.getElem?_eq_some_iff.1 hb).1
 have hs : w.heap.size ≤ (sortWorld enc w blk 0 m d os).heap.size := by simp [sortWorld]
 have hk : ∀ x, x < w.heap.size → x ≠ blk → (sortWorld enc w blk 0 m d os).heap[x]? = w.heap[x]? := fun x hx hn => by
  unfold sortWorld
  rw [Go.Sort.heap_grow_old _ _ (by simpa using hx)]
  show (w.heap.modify blk _)[x]? = _
  rw [Array.getElem?_modify, if_neg (fun e => hn e.symm)]
 have hbk : (sortWorld enc w blk 0 m d os).heap[blk]? = some (.cells (Go.Sort.putCells enc 0 d cur) t fz) := by
  unfold sortWorld
  rw [Go.Sort.heap_grow_old _ _ (by simpa using hlt)]
  show (w.heap.modify blk _)[blk]? = _
  rw [Array.getElem?_modify, if_pos rfl, hb]
  rfl
 refine ⟨hbk, ⟨⟨fun x hx hn => hk x (Go.Cv.vis_lt hx) (by simpa using hn), fun x hx => ?_, rfl, rfl, rfl⟩, hs, fun x hx hn => hk x hx (by simpa using hn)⟩⟩
 obtain ⟨ob, ho, hv⟩ := hx
 by_cases e : x = blk
 ·subst e; exact ⟨_, hbk, by simp [Go.Vc.hid]⟩
 ·exact ⟨ob, (hk x (Array.getElem?_eq_some_iff.1 ho).1 e).trans ho, hv⟩
def SE (w : World) (blk : Nat) : Type := { t : (Value × (Nat × Nat)) × List Nat // OwnT w (prow t.1.2) [t.1.1] t.2 ∧ blk ∉ t.2 }
def SE.v {w : World} {blk : Nat} (x : SE w blk) : Value := x.1.1.1
def SE.p {w : World} {blk : Nat} (x : SE w blk) : Nat × Nat := x.1.1.2
def SE.f {w : World} {blk : Nat} (x : SE w blk) : List Nat := x.1.2
def SE.cf {w : World} {blk : Nat} (x y : SE w blk) : Int := Go.Lib.compareInt x.p.1 y.p.1
theorem lt_cmp (a b : Int) : Go.Lib.compareInt a b < 0 ↔ a < b := by
 unfold Go.Lib.compareInt
 by_cases h1 : a < b
 ·simp [h1]
 ·by_cases h2 : b < a <;> simp [h1, h2]
theorem se_swo {w : World} {blk : Nat} : Go.Sort.SWO (ltOf (SE.cf (w := w) (blk := blk))) where
 irrefl x := by simp only [ltOf, SE.cf, decide_eq_false_iff_not, lt_cmp]; omega
 trans x y z h1 h2 := by simp only [ltOf, SE.cf, decide_eq_true_eq, lt_cmp] at *; omega
 ntrans x y z h1 h2 := by simp only [ltOf, SE.cf, decide_eq_false_iff_not, lt_cmp] at *; omega
theorem SE.at_ {w : World} {blk : Nat} (x : SE w blk) : ∃ b cap, x.v = .slice (some ⟨b, 0, none⟩) 2 cap ∧ b ≠ blk ∧ b < w.heap.size ∧ w.cell? ⟨b, 0, none⟩ = some (.int .i64 x.p.1) := by
 obtain ⟨b, cap, vs, F', cur, t, fz, sz, e1, e2, h, _, hc, hh, _⟩ := OwnT.into (n := 2) x.2.1 (by simp)
 refine ⟨b, cap, e1, fun e => x.2.2 (by rw [e2, e]; simp), (Array.getElem?_eq_some_iff.1 hh).1, ?_⟩
 obtain ⟨v1, r1, F1, R1, rfl, h1, k1, _⟩ := vals_cons h.val
 obtain ⟨rfl, _, _⟩ := h1
 exact hc 0 _ rfl
theorem se_one {w : World} {blk : Nat} : OneCell (SE.v (w := w) (blk := blk)) := fun x => by
 obtain ⟨b, cap, e, _⟩ := x.at_
 rw [e]; rfl
theorem se_of {w : World} {blk : Nat} : ∀ {ps : List (Nat × Nat)} {vs : List Value} {F : List Nat}, OwnT w (ps.flatMap prow) vs F → blk ∉ F → ∃ l : List (SE w blk), l.map SE.p = ps ∧ l.map SE.v = vs ∧ l.flatMap SE.f = F
 | [], vs, F, h, _ => by
  obtain ⟨rfl, rfl⟩ := vals_nil h.val
  exact ⟨[], rfl, rfl, rfl⟩
 | p :: ps, vs, F, h, hb => by
  obtain ⟨va, vb, Fa, Fb, rfl, rfl, ha, hb', _⟩ := OwnT.split (a := prow p) (b := ps.flatMap prow) h
  obtain ⟨v, rfl, _⟩ := OwnT.one (d := .sl 2 _) ha
  obtain ⟨l, rfl, rfl, rfl⟩ := se_of hb' (fun e => hb (List.mem_append_right _ e))
  exact ⟨⟨((v, p), Fa), ha, fun e => hb (List.mem_append_left _ e)⟩ :: l, rfl, rfl, rfl⟩
theorem se_own {w : World} {blk : Nat} : ∀ {l : List (SE w blk)}, (l.flatMap SE.f).Nodup → OwnT w ((l.map SE.p).flatMap prow) (l.map SE.v) (l.flatMap SE.f)
 | [], _ => ⟨vals_nil_mk, List.nodup_nil, OwnL.nil _, trivial⟩
 | x :: l, h => by
  obtain ⟨_, h2, h3⟩ := List.nodup_append.1 h
  exact OwnT.join x.2.1 (se_own h2) fun y hy hz => h3 y hy y hz rfl
end Go.Proofs.YtoegnikpokgbfaaGreatDoor
set_option maxRecDepth 8000
namespace Go.Proofs.YtoegnikpokgbfaaGreatDoor
open Go Go.Dv
open Go.Vc (D shrI xorI andI and255)
open Go.Vc (D shrI xorI andI and255 okV CellF ValsF Cells)
open Go.Cv Go.Cx Go.Shelf
theorem sw_empty {α : Type} [Inhabited α] (enc : α → Value) {w : World} {blk m : Nat} {d : Array α} {os : Array Obj} (hd : d.size = 0) : Gr w (sortWorld enc w blk 0 m d os) := by
 have hk : ∀ x, x < w.heap.size → (sortWorld enc w blk 0 m d os).heap[x]? = w.heap[x]? := fun x hx => by
  unfold sortWorld
  rw [Go.Sort.heap_grow_old _ _ (by simpa using hx)]
  unfold Go.Sort.putRow
  rw [Go.Sort.mapBlock_id]
  ·rfl
  ·intro c e fr _
   unfold Go.Sort.putCells
   refine Array.ext (by simp) fun i h1 h2 => ?_
   simp only [Array.getElem_mapIdx]
   rw [if_neg (by omega)]
 exact ⟨by simp [sortWorld], hk, rfl, rfl, rfl⟩
set_option maxHeartbeats 1000000 in
theorem sort_raw {w : World} {ps : List (Nat × Nat)} {vo : Value} {F : List Nat} (hO : OwnT w [.sl ps.length (ps.flatMap prow)] [vo] F) (hE : ps = [] → ∃ b, vo = .slice (some ⟨b, 0, none⟩) 0 0 ∧ b < w.heap.size)
 (hM : ∃ b0 m, w.cell? ⟨b0, 0, none⟩ = some (.int .i64 m)) (hl : ps.length ≤ 1048576) :
 Calls Tryz.prog 38 #[vo, .func (.func 39) #[] #[]] w fun e w' => ∃ v, e = .returned v ∧ ∃ (qs : List (Nat × Nat)) (F' : List Nat), qs.Perm ps ∧ qs.Pairwise (fun p q => p.1 ≤ q.1) ∧ OwnT w' [.sl qs.length (qs.flatMap prow)] [vo] F' ∧ (∀ x, x ∈ F' → x ∈ F) ∧ ChL F w w' := by
 have eg : ∀ args w, (callFunc 39 args).run Tryz.prog w = .ok (.enter 39 args) w := enters_of Tryz.func39 (by kernel_rfl) rfl
 by_cases hne : ps = []
 ·obtain ⟨b, rfl, hb⟩ := hE hne
  subst hne
  obtain ⟨b0, m, hm⟩ := hM
  have hb0 : b0 < w.heap.size := by
   obtain ⟨cs, ty, lh, h, _⟩ := cell_block hm
   exact (Array.getElem?_eq_some_iff.1 h).1
  refine (Any.slices_SortFunc (α := Unit) Tryz.sortP (fun _ => .slice (some ⟨b0, 0, none⟩) 1 1) (fun _ => rfl) (fun _ _ => 0) ⟨fun _ => rfl, fun _ _ _ h => (by cases h), fun _ _ _ _ _ => rfl⟩ 39 #[] b 0 0 #[] w eg (fun n os dk hd x y => ?_) (fun j hj => absurd hj (Nat.not_lt_zero _)) hb (by decide)).mono ?_
  ·have hg := sw_empty (fun _ : Unit => .slice (some ⟨b0, 0, none⟩) 1 1) (w := w) (blk := b) (m := n) (d := dk) (os := os) hd
   have hc := cell_keep hg hb0 hm
   have := clo_raw hc hc (n := 1) (n' := 1) (c := 1) (c' := 1) (by decide) (by decide)
   rw [show Go.Lib.compareInt m m = 0 by simp [Go.Lib.compareInt]] at this
   exact this.mono fun e w' ⟨h1, q, h2⟩ => ⟨h1, q, #[], by rw [h2, Go.Sort.grow_empty]⟩
  ·rintro e w' ⟨rfl, d', n, os, ⟨hs, _, _⟩, _, rfl⟩
   have hg := sw_empty (fun _ : Unit => .slice (some ⟨b0, 0, none⟩) 1 1) (w := w) (blk := b) (m := n) (d := d') (os := os) hs
   exact ⟨_, rfl, [], F, List.Perm.refl _, List.Pairwise.nil, hO.keep (hg.chl []) (by simp), fun _ h => h, hg.chl F⟩
 ·have hdn : ps.flatMap prow ≠ [] := fun e => by
   have := congrArg List.length e
   rw [flatMap_len prow_len] at this
   exact hne (List.eq_nil_of_length_eq_zero (by simpa using this))
  obtain ⟨blk, cap, vs, F', cur, t, fz, sz, rfl, rfl, hin, hbn, hc, hh, hlh, h1, h2, h3, h4⟩ := hO.into hdn
  obtain ⟨l, rfl, rfl, rfl⟩ := se_of hin hbn
  have hsz : (l.toArray).size = l.length := rfl
  have hlt := (Array.getElem?_eq_some_iff.1 hh).1
  haveI : Inhabited (SE w blk) := ⟨l.head (fun e => by subst e; exact hne rfl)⟩
  have hget : ∀ (j : Nat) (hj : j < l.toArray.size), l.toArray[j]! = l[j]'(by simpa using hj) := fun j hj => by rw [getElem!_pos l.toArray j hj]; simp
  have hH : Go.Sort.Holds SE.v w blk 0 l.toArray := fun j hj => by
   have hj' : j < l.length := by simpa using hj
   have hcell : w.cell? ⟨blk, 0 + j, none⟩ = some l[j].v := hc j _ (by rw [List.getElem?_map, List.getElem?_eq_getElem hj']; rfl)
   refine ⟨by rw [hget j hj]; exact hcell, OwnL.frozen (F := [blk]) (fun x hx => ?_) (by simp) (by rw [hcell]; rfl)⟩
   obtain rfl : x = blk := by simpa using hx
   exact ⟨cur, t, fz, hh, hlh⟩
  have hlen : l.length ≤ 1048576 := by simpa using hl
  have key := Any.slices_SortFunc Tryz.sortP SE.v se_one SE.cf se_swo 39 #[] blk 0 cap l.toArray w eg (fun n os dk hd x y => ?_) hH hlt (by rw [hsz]; omega)
  ·rw [hsz] at key
   have e0 : l.length = (l.map SE.p).length := by simp
   rw [e0] at key
   refine Calls.mono key ?_
   rintro e w' ⟨rfl, d', n, os, ⟨hs, _, hp⟩, hso, rfl⟩
   obtain ⟨hbk, g⟩ := sw_heap SE.v (m := n) (d := d') (os := os) hh
   have hs' : d'.size = l.length := by simpa using hs
   have hp : d'.toList.Perm l := by
    have e1 : d'.extract 0 (l.map SE.p).length = d' := by rw [← e0, ← hs']; simp
    have e2 : l.toArray.extract 0 (l.map SE.p).length = l.toArray := by rw [← e0, ← hsz]; simp
    rw [e1, e2] at hp
    simpa using hp
   have hnd : (d'.toList.flatMap SE.f).Nodup := (hp.flatMap_right SE.f).nodup_iff.2 hin.nodup
   have hx : ∀ x, x ∈ d'.toList.flatMap SE.f → x ∈ l.flatMap SE.f := fun x hx => (hp.flatMap_right SE.f).mem_iff.1 hx
   have hbx : blk ∉ d'.toList.flatMap SE.f := fun e => hbn (hx _ e)
   have hown := (se_own hnd).keep g (fun x hx' e => hbx (by rw [List.mem_singleton.1 e] at hx'; exact hx'))
   refine ⟨_, rfl, d'.toList.map SE.p, blk :: d'.toList.flatMap SE.f, hp.map _, ?_, ?_, fun x hx' => ?_, g.mono (by simp)⟩
   ·rw [List.pairwise_map]
    refine List.pairwise_iff_getElem.2 fun i j hi hj hij => ?_
    have := hso i j (Nat.zero_le _) hij (by rw [← e0, ← hs']; simpa using hj)
    rw [getElem!_pos d' i (by simpa using hi), getElem!_pos d' j (by simpa using hj)] at this
    simp only [ltOf, SE.cf, decide_eq_false_iff_not, lt_cmp] at this
    simp only [Array.getElem_toList]
    omega
   ·have e3 : (d'.toList.map SE.p).length = (l.map SE.p).length := by simp [hs']
    rw [e3]
    have hz : sz = 1 := by
     have hp0 : 0 < l.length := List.length_pos_iff.2 fun e => hne (by rw [e]; rfl)
     rw [flatMap_len prow_len, List.length_map] at h3
     exact (Nat.eq_of_mul_eq_mul_left hp0 h3).symm
    subst hz
    refine hown.outof (sz := 1) hbx (fun j v hj => ?_) hbk (by simpa [Go.Sort.putCells] using hlh) h1 h2 (by rw [flatMap_len prow_len]; simp [hs']) (by simpa [Go.Sort.putCells] using h4) (fun e => ?_)
    ·rw [cell_of_row _ blk (0 + j) _ t fz hbk, Nat.zero_add]
     have hj' : j < d'.size := by simpa using (List.getElem?_eq_some_iff.1 hj).1
     have hcs : j < cur.size := by
      have : l.length * 1 ≤ cur.size := by
       have := Nat.mul_le_mul_right 1 h1
       rw [List.length_map] at this
       omega
      omega
     unfold Go.Sort.putCells
     rw [Array.getElem?_mapIdx, Array.getElem?_eq_getElem hcs, Option.map_some, if_pos (by omega), Nat.sub_zero, getElem!_pos d' j hj']
     rw [List.getElem?_map, List.getElem?_eq_getElem (by simpa using hj')] at hj
     simpa using hj
    ·have := congrArg List.length e
     rw [flatMap_len prow_len, List.length_map] at this
     simp at this
     have hl0 : l = [] := List.eq_nil_of_length_eq_zero (by rw [← hs', this]; rfl)
     exact hne (by rw [hl0]; rfl)
   ·rcases List.mem_cons.1 hx' with rfl | hx'
    ·simp
    ·exact List.mem_cons_of_mem _ (hx x hx')
  ·obtain ⟨b1, c1, e1, n1, l1, k1⟩ := x.at_
   obtain ⟨b2, c2, e2, n2, l2, k2⟩ := y.at_
   obtain ⟨_, g⟩ := sw_heap SE.v (m := n) (d := dk) (os := os) hh
   have kk : ∀ {b : Nat} {v : Value}, b ≠ blk → b < w.heap.size → w.cell? ⟨b, 0, none⟩ = some v → (sortWorld SE.v w blk 0 n dk os).cell? ⟨b, 0, none⟩ = some v := fun {b v} hb hlt h => by
    unfold World.cell? at h ⊢
    rw [g.keep b hlt (by simpa using hb)]; exact h
   have := clo_raw (kk n1 l1 k1) (kk n2 l2 k2) (n := 2) (n' := 2) (c := c1) (c' := c2) (by decide) (by decide)
   rw [← e1, ← e2] at this
   exact this.mono fun e w' ⟨h1, q, h2⟩ => ⟨h1, q, #[], by rw [h2, Go.Sort.grow_empty]⟩
theorem pr0 {K : KX} {f : Rg} {w : World}   (hk : ∀ (f' : Rg) , True → (∀ j, j ∉ [2] → f' j = f j) → K .normal f' w) : xc Tryz.prog 83 pR0 K f w := by
 simp (maxSteps := 10000000) only [tt, Go.Cx.xc, Go.Cx.xl, Go.Cx.xOp, Go.Cv.cg0, Go.Cv.cOp, seval, pR0, ]
 exact hk _ trivial (fun j hj => by simp only [List.mem_cons, List.not_mem_nil, or_false] at hj; simp only [upd, hj, if_false])
theorem pr1 {K : KX} {f : Rg} {w : World}   (hk : ∀ (f' : Rg) (w' : World) , (∃ b, f' 3 = .c (.v (.slice (some ⟨b, 0, none⟩) 0 0)) ∧ b < w'.heap.size) ∧ Gr w w' → (∀ j, j ∉ [8, 3] → f' j = f j) → K .normal f' w') : xc Tryz.prog 83 pR1 K f w := by
 simp (maxSteps := 10000000) only [tt, Go.Cx.xc, Go.Cx.xl, Go.Cx.xOp, Go.Cv.cg0, Go.Cv.cOp, seval, pR1, Go.Cx.xBuildS, Go.Cx.valsV]
 refine ⟨by kernel_rfl, fun v hv => absurd hv (by simp), fun b w1 hb hw => ?_⟩
 obtain ⟨hx, g1⟩ := box_new hb hw
 exact hk _ _ ⟨⟨b, rfl, (Array.getElem?_eq_some_iff.1 hx).1⟩, g1⟩ (fun j hj => by simp only [List.mem_cons, List.not_mem_nil, or_false, not_or] at hj; simp only [upd, hj, if_false])
theorem pr2 {K : KX} {f : Rg} {w : World}   (hk : ∀ (f' : Rg) (w' : World) , (∃ b, f' 4 = .c (.v (.slice (some ⟨b, 0, none⟩) 0 0)) ∧ b < w'.heap.size) ∧ Gr w w' → (∀ j, j ∉ [9, 4] → f' j = f j) → K .normal f' w') : xc Tryz.prog 83 pR2 K f w := by
 simp (maxSteps := 10000000) only [tt, Go.Cx.xc, Go.Cx.xl, Go.Cx.xOp, Go.Cv.cg0, Go.Cv.cOp, seval, pR2, Go.Cx.xBuildS, Go.Cx.valsV]
 refine ⟨by kernel_rfl, fun v hv => absurd hv (by simp), fun b w1 hb hw => ?_⟩
 obtain ⟨hx, g1⟩ := box_new hb hw
 exact hk _ _ ⟨⟨b, rfl, (Array.getElem?_eq_some_iff.1 hx).1⟩, g1⟩ (fun j hj => by simp only [List.mem_cons, List.not_mem_nil, or_false, not_or] at hj; simp only [upd, hj, if_false])
theorem pr3 {K : KX} {f : Rg} {w : World} {a : Option Addr} {n cap : Nat} (h0 : f 0 = .c (.v (.slice a n cap))) (hk : ∀ (f' : Rg) , f' 10 = .c (.v (.slice a n cap)) ∧ f' 11 = .c (.v (.int .i64 (n : Nat))) ∧ f' 12 = .c (.v (.int .i64 0)) → (∀ j, j ∉ [10, 11, 12] → f' j = f j) → K .normal f' w) : xc Tryz.prog 83 pR3 K f w := by
 simp (maxSteps := 10000000) only [tt, Go.Cx.xc, Go.Cx.xl, Go.Cx.xOp, Go.Cv.cg0, Go.Cv.cOp, seval, pR3, h0]
 exact hk _ ⟨rfl, rfl, rfl⟩ (fun j hj => by simp only [List.mem_cons, List.not_mem_nil, or_false, not_or] at hj; simp only [upd, hj, if_false])
theorem pr17 {K : KX} {f : Rg} {w : World} {vo : Value} (h3 : f 3 = .c (.v vo)) {R : World → Prop} (hR : Calls Tryz.prog 38 #[vo, .func (.func 39) #[] #[]] w fun e w' => ∃ v, e = .returned v ∧ R w') (hk : ∀ (f' : Rg) (w' : World) , R w' → (∀ j, j ∉ [80, 81] → f' j = f j) → K .normal f' w') : xc Tryz.prog 83 pR17 K f w := by
 simp (maxSteps := 10000000) only [tt, Go.Cx.xc, Go.Cx.xl, Go.Cx.xOp, Go.Cx.xCall, Go.Cv.cg0, Go.Cv.cOp, Go.Cx.argsW, seval, pR17, h3]
 refine ⟨by kernel_rfl, fun _ w' => R w', hR, fun v w' hr => Stp.go ?_⟩
 exact hk _ _ hr (fun j hj => by simp only [List.mem_cons, List.not_mem_nil, or_false, not_or] at hj; simp only [upd, hj, if_false])
theorem pr18 {K : KX} {f : Rg} {w : World} {vo : Value} (h3 : f 3 = .c (.v vo)) (hk : ∀ (f' : Rg) , f' 2 = .c (.v vo) → (∀ j, j ∉ [82, 2] → f' j = f j) → K .normal f' w) : xc Tryz.prog 83 pR18 K f w := by
 simp (maxSteps := 10000000) only [tt, Go.Cx.xc, Go.Cx.xl, Go.Cx.xOp, Go.Cv.cg0, Go.Cv.cOp, seval, pR18, h3]
 exact hk _ rfl (fun j hj => by simp only [List.mem_cons, List.not_mem_nil, or_false, not_or] at hj; simp only [upd, hj, if_false])
set_option maxHeartbeats 1000000 in
theorem PairsOf_raw {w : World} {L : List Tok} {v : Value} {G : List Nat} (hL : L.length ≤ 1048576) (h : CellF w (.sl L.length (L.flatMap Tok.row)) v G) (hM : ∃ b0 m, w.cell? ⟨b0, 0, none⟩ = some (.int .i64 m)) :
 Calls Tryz.prog 12 #[v] w fun e w' => ∃ r, e = .returned r ∧ ∃ F : List Nat, OwnT w' [.sl (prs L).length ((prs L).flatMap prow)] [r] F ∧ (∀ x, x ∈ F → w.heap.size ≤ x) ∧ Gr w w' := by
 refine @calls_of_y _ w 12 Tryz.f12 _ [v] _ Tryz.func12 pR_body (Nat.le_of_ble_eq_true rfl) ?_
 have hv : ∃ a cap, v = .slice a L.length cap := by
  obtain ⟨a, cap, rfl, _⟩ := h
  exact ⟨a, cap, rfl⟩
 obtain ⟨a, cap, rfl⟩ := hv
 have hn : Tryz.f12.ntmps = 83 := by kernel_rfl
 have hr : Tryz.f12.results.toList = [Go.ResultVar.tmp 2] := by kernel_rfl
 rw [hn, hr]
 have q0 : regsV [.slice a L.length cap] 0 = .c (.v (.slice a L.length cap)) := rfl
 generalize regsV [.slice a L.length cap] = g0 at q0
 refine x_seq (pr0 fun f1 _ k1 => sq_n (x_seq (pr1 fun f2 w2 ⟨⟨b3, q3, hb3⟩, g2⟩ k2 => sq_n (x_seq (pr2 fun f3 w3 ⟨⟨b4, q4, hb4⟩, g3⟩ k3 => sq_n (x_seq (x_seq ?_)))))))
 have q0 := (k3 0 (by decide)).trans ((k2 0 (by decide)).trans ((k1 0 (by decide)).trans q0))
 have q3 := (k3 3 (by decide)).trans q3
 refine pr3 q0 fun f4 ⟨q10, q11, q12⟩ k4 => sq_n (x_block ?_)
 have q0 := (k4 0 (by decide)).trans q0
 have q3 := (k4 3 (by decide)).trans q3
 have q4 := (k4 4 (by decide)).trans q4
 have gr := g2.trans g3
 have hin : ∀ k ∈ [3, 4, 12], Go.Vc.inN (Go.Vc.dsts pRB) k = true := by decide
 have hout : ∀ k ∈ [0, 10, 11], Go.Vc.inN (Go.Vc.dsts pRB) k = false := by decide
 have mi : ∀ (g : Rg) k, k ∈ [3, 4, 12] → mixR (Go.Vc.dsts pRB) f4 g k = g k := fun g k hk => by unfold mixR; rw [if_pos (hin k hk)]
 have mo : ∀ (g : Rg) k (u : Value), k ∈ [0, 10, 11] → f4 k = .c (.v u) → mixR (Go.Vc.dsts pRB) f4 g k = .c (.v u) := fun g k u hk hu => by
  unfold mixR
  rw [if_neg (by rw [hout k hk]; decide), hu]; rfl
 have mixI : ∀ {g : Rg} {w' : World}, PrI w L (.slice a L.length cap) g w' → PrI w L (.slice a L.length cap) (mixR (Go.Vc.dsts pRB) f4 g) w' := by
  rintro g w' ⟨i, os, ps, vo, vs, Fo, Fs, p0, p3, p4, p10, p11, p12, hr⟩
  exact ⟨i, os, ps, vo, vs, Fo, Fs, mo g 0 _ (by decide) q0, (mi g 3 (by decide)).trans p3, (mi g 4 (by decide)).trans p4, mo g 10 _ (by decide) q10, mo g 11 _ (by decide) q11, (mi g 12 (by decide)).trans p12, hr⟩
 refine ⟨fun f w' => PrI w L (.slice a L.length cap) f w', fun f _ => (L.length - ixS (f 12)).toNat, mixI ⟨0, [], [], _, _, [], [], q0, q3, q4, q10, q11, q12, Nat.zero_le _, StAt.start L, Nat.le_refl _, Nat.le_refl _, ?_, Stk.nil _ _, by simp, by simp, by simp, gr, fun _ => ⟨b3, rfl, Nat.lt_of_lt_of_le hb3 g3.size⟩⟩, fun g w4 hI => ?_⟩
 ·exact ⟨⟨[], [], ⟨_, 0, rfl, Nat.le_refl _, by simp [maxLen], fun _ => rfl, .inl ⟨rfl, rfl⟩⟩, rfl, rfl⟩, List.nodup_nil, OwnL.nil _, ⟨_, 0, rfl, fun _ => rfl, .inl rfl⟩, trivial⟩
 refine PairsOf_round hL h _ _ w4 hI (fun f w' hh => ?_) (fun f w' hh hlt => ⟨mixI hh, ?_⟩)
 ·obtain ⟨os, ps, vo, Fo, p3, hst, hpl, hO, hoN, gr', hE⟩ := hh
  refine bk_e (sq_n (x_seq ?_))
  have hM' : ∃ b0 m, w'.cell? ⟨b0, 0, none⟩ = some (.int .i64 m) := by
   obtain ⟨b0, m, hm⟩ := hM
   obtain ⟨cs, ty, lh, hb, _⟩ := cell_block hm
   exact ⟨b0, m, cell_keep gr' (Array.getElem?_eq_some_iff.1 hb).1 hm⟩
  refine pr17 p3 (sort_raw hO hE hM' (by omega)) fun f5 w5 ⟨qs, F', hp, hso, hO', hF', g'⟩ k5 => sq_n (x_seq ?_)
  have p3 := (k5 3 (by decide)).trans p3
  refine pr18 p3 fun f6 p2 k6 => sq_n ?_
  have e : qs = prs L := by
   refine sorted_eq hst (fun q => hp.mem_iff) hso ?_
   exact (hp.map Prod.fst).nodup_iff.2 (List.nodup_append.1 hst.nd).1
  subst e
  refine x_ret p2 ?_
  exact ⟨F', hO', fun x hx => hoN x (hF' x hx), gr'.chl_trans g' hoN⟩
 ·show (L.length - ixS (mixR _ f4 f 12)).toNat < _
  rw [mi f 12 (by decide)]; exact hlt
end Go.Proofs.YtoegnikpokgbfaaGreatDoor
set_option maxRecDepth 8000
namespace Go.Proofs.YtoegnikpokgbfaaGreatDoor
open Go Go.Dv
open Go.Vc (D shrI xorI andI and255)
open Go.Vc (D shrI xorI andI and255 okV CellF ValsF Cells)
open Go.Cv Go.Cx
def okS (w w' : World) (s : S) : Prop := (plainL (cellsS s) && decide ((cellsS s).length ≤ 900)) = true ∨
 ∃ m es F, s = .c (.sl m es (some [F])) ∧ F.Nodup ∧ ∀ b ∈ F, w.heap.size ≤ b ∧ ∃ cs t lh, w'.heap[b]? = some (.cells cs t lh) ∧ Lh cs.size lh
theorem cl_gen {g : FuncId} {args : List S} {R : S → List (List C) → Prop} (hc : Go.Vc.callable Tryz.prog g = true) (hpl : plainL (args.flatMap cellsS) = true)
 (h : ∀ (w : World) (vs : List Value), (∃ β ok, RelA Tryz.prog w β ok args vs) → GlW w (fun _ => False) → Calls Tryz.prog g vs.toArray w fun e w' => ∃ r, e = .returned r ∧ ∃ s, R s [] ∧ okS w w' s ∧ (∀ β, RelS Tryz.prog w' β (fun b => w.heap.size ≤ b) s r) ∧ Gr w w') :
 Cl Tryz.prog g args [] R := by
 refine ⟨hc, fun w β ok0 vs ha ho hg => ?_⟩
 obtain ⟨e1, e2⟩ := plain_args 9500 hpl
 have el : lent args [] = [] := by simp [lent, e2, expB]
 rw [e1] at ha
 have ho' : ∀ b, ¬ ownB (lent args []) β b := by rw [el]; rintro b ⟨i, o, hl, _⟩; simp [Go.Dv.look] at hl
 refine (h w vs ⟨_, _, ha⟩ (hg.mono (fun _ _ _ => rfl) fun _ h _ => h.elim)).mono ?_
 rintro e w' ⟨v, rfl, r, hR, hp, hrel, hB⟩
 rcases hp with hp | ⟨m, es, F, rfl, hn, hF⟩
 ·simp only [Bool.and_eq_true, decide_eq_true_eq] at hp
  obtain ⟨k1, k2, k3, k4, k5, k6, k7⟩ := plain_all (ρ := []) (L := []) hp.1
  have hbk : back r [] = [] := by simp [back, k2, expB]
  have hnb : ∀ b, ¬ ownB (back r []) β b := by rw [hbk]; rintro b ⟨i, o, hl, _⟩; simp [Go.Dv.look] at hl
  refine ⟨v, r, [], β, rfl, hR, ⟨?_, ⟨fun i o hl => ?_, fun i j o o' b hl => ?_⟩, fun k hk => absurd hk (Nat.not_lt_zero _), rfl, ⟨hB.size, fun b hb _ => hB.keep b hb, fun b _ hb => (hnb b hb).elim, fun b cs ty lh hc => ⟨cs, lh, (hB.keep b (lt_of_heap hc)).trans hc, rfl⟩⟩, hB.size, ⟨hB.os, hB.tape, hB.output⟩, ⟨by simp [fps, k7, fpB], fun b hb => ?_⟩, by simp [flat, k6, hp.2, flatB]⟩⟩
  ·rw [plain_expS hp.1]
   exact (hrel β).st (stab_mono fun b hb => ⟨hnb b, fun hlt => by omega⟩)
  ·simp [hbk, Go.Dv.look] at hl
  ·simp [hbk, Go.Dv.look] at hl
  ·simp [fps, k7, fpB] at hb
 ·have hnb : ∀ b, ¬ ownB (back (.c (.sl m es (some [F]))) []) β b := by rintro b ⟨i, o, hl, _⟩; cases hl
  have hfp : (fps (.c (.sl m es (some [F]))) []).flatten = F := by simp [fps, cellsS, fpL, fpC, fpB]
  refine ⟨v, _, [], β, rfl, hR, ⟨?_, ⟨fun i o hl => (by cases hl), fun i j o o' b hl => (by cases hl)⟩, fun k hk => absurd hk (Nat.not_lt_zero _), rfl, ⟨hB.size, fun b hb _ => hB.keep b hb, fun b _ hb => (hnb b hb).elim, fun b cs ty lh hc => ⟨cs, lh, (hB.keep b (lt_of_heap hc)).trans hc, rfl⟩⟩, hB.size, ⟨hB.os, hB.tape, hB.output⟩, ⟨by rw [hfp]; exact hn, fun b hb => ?_⟩, rfl⟩⟩
  ·exact (hrel β).st (stab_mono fun b hb => ⟨hnb b, fun hlt => by omega⟩)
  ·rw [hfp] at hb
   exact ⟨.inl (hF b hb).1, (hF b hb).2, hnb b⟩
theorem gl_num {w : World} {own : Nat → Prop} (h : GlW w own) : ∃ b0 m, w.cell? ⟨b0, 0, none⟩ = some (.int .i64 m) := by
 obtain ⟨_, cs, ty, lh, h1, m, h2⟩ := h (0, fun cs => ∃ m, cs[0]? = some (.int .i64 m)) (List.mem_append_left _ (by unfold libVars; exact List.mem_cons_of_mem _ (List.mem_cons_self ..)))
 have h1 : w.heap[0]? = some (.cells cs ty lh) := h1
 refine ⟨0, m, ?_⟩
 rw [cell_of_row w _ 0 cs ty lh h1]; exact h2
theorem iPairsOf_d (L : List Tok) (hL : L.length ≤ 1048576) : Cl Tryz.prog 12 [.c (.sl L.length (L.flatMap Tok.row) none)] [] fun r _ => r = .c (.sl (prs L).length ((prs L).flatMap prow) none) := by
 refine cl_gen (by kernel_rfl) rfl fun w vs ⟨β, ok, ha⟩ hg => ?_
 obtain ⟨v, G, rfl, hv⟩ : ∃ v G, vs = [v] ∧ CellF w (.sl L.length (L.flatMap Tok.row)) v G := by
  match vs, ha with
  | [v], ⟨⟨G, h1, _⟩, _⟩ => exact ⟨v, G, rfl, h1⟩
 refine (PairsOf_raw hL hv (gl_num hg)).mono ?_
 rintro e w' ⟨r, rfl, F, hO, hF, g⟩
 obtain ⟨v', e', hc, _⟩ := hO.one
 obtain rfl : r = v' := by simpa using e'
 exact ⟨_, rfl, _, rfl, .inl rfl, fun β => ⟨F, hc, hF, fun Fs e => by cases e⟩, g⟩
end Go.Proofs.YtoegnikpokgbfaaGreatDoor
