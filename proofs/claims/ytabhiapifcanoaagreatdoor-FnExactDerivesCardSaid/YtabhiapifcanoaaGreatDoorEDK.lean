/-
  What the row reads.
  Conditions: none.
-/
import Derived.Test.YtabhiapifcanoaaGreatDoorEDF1
import Derived.Test.YtabhiapifcanoaaGreatDoorRows
import Derived.ProofKit
import Derived.OpenShut
import Derived.Lib.LaidTab
import Derived.Stop.LaidErr
import Derived.MakeChecks
import Derived.Lay
import Derived.Test.YtabhiapifcanoaaGreatDoorTie
import Derived.Test.YtabhiapifcanoaaGreatDoorCards
import Derived.SevenTiedAt
import Derived.RowKitTokens
set_option linter.unusedVariables false
set_option linter.unusedSimpArgs false
set_option linter.unusedSectionVars false
set_option linter.unnecessarySimpa false
set_option maxRecDepth 8000
namespace Go.Proofs.YtabhiapifcanoaaGreatDoor
open Go Go.Dv
open Go.Vc (D shrI xorI andI)
open Go.Cv
open Go.Vc (CellF ValsF callable Cells)
theorem relS_ag {P : Program} {w : World} {ds : List D} {vs : List Value} {F : List Nat} (h : ValsF w ds vs F) : RelS P w (fun _ => none) (fun _ => True) (.ag (csOf ds)) (.agg vs.toArray) := ⟨vs, rfl, csOf_rel h fun _ _ => trivial⟩
theorem relS_sl {P : Program} {w : World} {n : Nat} {ds : List D} {v : Value} {G : List Nat} (h : CellF w (.sl n ds) v G) : RelS P w (fun _ => none) (fun _ => True) (.c (.sl n ds none)) v := ⟨G, h, fun _ _ => trivial, fun _ h => by cases h⟩
end Go.Proofs.YtabhiapifcanoaaGreatDoor
set_option maxRecDepth 8000
namespace Go.Proofs.YtabhiapifcanoaaGreatDoor
open Go Go.Dv
open Go.Vc (D shrI xorI andI)
open Go.Vc (D CellF ValsF read_slice list_cons list_one)
section
variable {W : World}
theorem vf_nil : ValsF W [] [] [] := rfl
theorem vf_lit {v : Value} {ds : List D} {vs : List Value} {F : List Nat} (h : ∃ G, CellF W (.lit v) v G ∧ G = []) (k : ValsF W ds vs F) : ValsF W (.lit v :: ds) (v :: vs) F := by
 obtain ⟨G, h, rfl⟩ := h
 exact ⟨[], F, h, k, rfl⟩
theorem vf_sl {n : Nat} {d : List D} {v : Value} {G : List Nat} {ds : List D} {vs : List Value} {F : List Nat} (h : CellF W (.sl n d) v G) (k : ValsF W ds vs F) : ValsF W (.sl n d :: ds) (v :: vs) (G ++ F) := ⟨G, F, h, k, rfl⟩
theorem vf_app : ∀ {a : List D} {u : List Value} {b : List D} {v : List Value} {F G : List Nat}, ValsF W a u F → ValsF W b v G → ValsF W (a ++ b) (u ++ v) (F ++ G)
 | [], [], b, v, F, G, h, k => by cases (show F = [] from h); exact k
 | d :: a, x :: u, b, v, F, G, ⟨F1, F2, h1, h2, h3⟩, k => by subst h3; exact ⟨F1, F2 ++ G, h1, vf_app h2 k, by rw [List.append_assoc]⟩
 | [], _ :: _, _, _, _, _, h, _ => h.elim
 | _ :: _, [], _, _, _, _, h, _ => h.elim
theorem cell_sub {α : Type} {R : α → Prop} {row : α → List D} {ys : List {x : α // R x}} {v : Value} {F : List Nat} (h : CellF W (.sl ys.length (ys.flatMap fun y => row y.1)) v F) : CellF W (.sl (ys.map Subtype.val).length ((ys.map Subtype.val).flatMap row)) v F := by
 rw [List.length_map, List.flatMap_map]; exact h
theorem sub_mem {α : Type} {R : α → Prop} {ys : List {x : α // R x}} : ∀ x ∈ ys.map Subtype.val, R x := fun x hx => by
 obtain ⟨y, _, rfl⟩ := List.mem_map.1 hx
 exact y.2
theorem wf64 {n : Int} (h : (Lit.int .i64 n).wf = true) : -9223372036854775808 ≤ n ∧ n ≤ 9223372036854775807 := by
 simp [Lit.wf, IntKind.min, IntKind.max, IntKind.bits, IntKind.signed] at h
 omega
end
section
variable {H : Type} {enc : TypeId × Value → H} {W : World} {base : Nat} {sp : Nat → Bool} {held : Bool}
theorem cells39 : Tryz.prog.cellsOf 39 = 1 := by kernel_rfl
theorem cells119 : Tryz.prog.cellsOf 119 = 1 := by kernel_rfl
theorem cells40 : Tryz.prog.cellsOf 40 = 1 := by kernel_rfl
theorem cells121 : Tryz.prog.cellsOf 121 = 1 := by kernel_rfl
theorem cells120 : Tryz.prog.cellsOf 120 = 1 := by kernel_rfl
theorem cells4 : Tryz.prog.cellsOf 4 = 1 := by kernel_rfl
theorem cells3 : Tryz.prog.cellsOf 3 = 1 := by kernel_rfl
theorem cells42 : Tryz.prog.cellsOf 42 = 10 := by kernel_rfl
theorem cells199 : Tryz.prog.cellsOf 199 = 13 := by kernel_rfl
theorem cells123 : Tryz.prog.cellsOf 123 = 6 := by kernel_rfl
theorem cells205 : Tryz.prog.cellsOf 205 = 11 := by kernel_rfl
theorem cells202 : Tryz.prog.cellsOf 202 = 3 := by kernel_rfl
theorem cells38 : Tryz.prog.cellsOf 38 = 3 := by kernel_rfl
theorem cells9 : Tryz.prog.cellsOf 9 = 1 := by kernel_rfl
def RExpr (e : Expr) : Prop := Rg e
def RItem (x : Item) : Prop := Rg x.e
def RSource (x : Source) : Prop := ∀ e ∈ x.on, Rg e
def RSortKey (x : SortKey) : Prop := Rg x.e
def RQuery (q : Query) : Prop := RgQ q
theorem read_val {n : Nat} {cs : List Value} {x : DataW H × List MemPlace} (h : DataW.trod enc Tryz.prog W base sp held n 38 cs = some x) : ∃ (y : Val), cs = [.int .i64 y.kind, .int .i64 y.num, .string y.text] ∧ y.text.size ≤ maxLen ∧ -9223372036854775808 ≤ y.num ∧ y.num ≤ 9223372036854775807 := by
 obtain ⟨xs, k, hk, _, hl, hlen, hf⟩ := DataW.trod_struct Tryz.underlying38 h
 rw [cells38] at hl
 obtain ⟨c0, r0, rfl, hl1⟩ := list_cons hl
 obtain ⟨c1, r1, rfl, hl2⟩ := list_cons hl1
 obtain ⟨c2, rfl⟩ := list_one hl2
 obtain ⟨x0, s0, rfl, hlen1⟩ := list_cons hlen
 obtain ⟨x1, s1, rfl, hlen2⟩ := list_cons hlen1
 obtain ⟨x2, rfl⟩ := list_one hlen2
 have h0 : DataW.trod enc Tryz.prog W base sp held k 3 (([c0, c1, c2].drop 0).take (Tryz.prog.cellsOf 3)) = some x0 := hf 0 _ rfl
 rw [cells3] at h0
 have h0 : DataW.trod enc Tryz.prog W base sp held k 3 [c0] = some x0 := h0
 have h1 : DataW.trod enc Tryz.prog W base sp held k 3 (([c0, c1, c2].drop 1).take (Tryz.prog.cellsOf 3)) = some x1 := hf 1 _ rfl
 rw [cells3] at h1
 have h1 : DataW.trod enc Tryz.prog W base sp held k 3 [c1] = some x1 := h1
 have h2 : DataW.trod enc Tryz.prog W base sp held k 9 (([c0, c1, c2].drop 2).take (Tryz.prog.cellsOf 9)) = some x2 := hf 2 _ rfl
 rw [cells9] at h2
 have h2 : DataW.trod enc Tryz.prog W base sp held k 9 [c2] = some x2 := h2
 obtain ⟨n0, e0, _, w0⟩ := DataW.trod_int Tryz.underlying3 h0
 obtain ⟨n1, e1, _, w1⟩ := DataW.trod_int Tryz.underlying3 h1
 obtain ⟨n2, e2, _, b2⟩ := DataW.trod_string Tryz.underlying9 h2
 simp only [List.cons.injEq, and_true] at e0 e1 e2
 subst e0 e1 e2
 exact ⟨⟨n0, n1, n2⟩, rfl, b2, wf64 w1⟩
theorem read_trees (n : Nat) : (∀ cs x, DataW.trod enc Tryz.prog W base sp held n 42 cs = some x → ∃ (e : {x : Expr // RExpr x}) (F : List Nat), ValsF W e.1.row cs F) ∧ (∀ cs x, DataW.trod enc Tryz.prog W base sp held n 199 cs = some x → ∃ (e : {x : Item // RItem x}) (F : List Nat), ValsF W e.1.row cs F) ∧ (∀ cs x, DataW.trod enc Tryz.prog W base sp held n 202 cs = some x → ∃ (e : {x : Source // RSource x}) (F : List Nat), ValsF W e.1.row cs F) ∧ (∀ cs x, DataW.trod enc Tryz.prog W base sp held n 205 cs = some x → ∃ (e : {x : SortKey // RSortKey x}) (F : List Nat), ValsF W e.1.row cs F) ∧ (∀ cs x, DataW.trod enc Tryz.prog W base sp held n 123 cs = some x → ∃ (e : {x : Query // RQuery x}) (F : List Nat), ValsF W e.1.row cs F) := by
 induction n using Nat.strongRecOn with
 | _ n ih =>
 refine ⟨fun cs x h => ?_, fun cs x h => ?_, fun cs x h => ?_, fun cs x h => ?_, fun cs x h => ?_⟩
 ·skip
  obtain ⟨xs, k, hk, _, hl, hlen, hf⟩ := DataW.trod_struct Tryz.underlying42 h
  rw [cells42] at hl
  obtain ⟨c0, r0, rfl, hl1⟩ := list_cons hl
  obtain ⟨c1, r1, rfl, hl2⟩ := list_cons hl1
  obtain ⟨c2, r2, rfl, hl3⟩ := list_cons hl2
  obtain ⟨c3, r3, rfl, hl4⟩ := list_cons hl3
  obtain ⟨c4, r4, rfl, hl5⟩ := list_cons hl4
  obtain ⟨c5, r5, rfl, hl6⟩ := list_cons hl5
  obtain ⟨c6, r6, rfl, hl7⟩ := list_cons hl6
  obtain ⟨c7, r7, rfl, hl8⟩ := list_cons hl7
  obtain ⟨c8, r8, rfl, hl9⟩ := list_cons hl8
  obtain ⟨c9, rfl⟩ := list_one hl9
  obtain ⟨x0, s0, rfl, hlen1⟩ := list_cons hlen
  obtain ⟨x1, s1, rfl, hlen2⟩ := list_cons hlen1
  obtain ⟨x2, s2, rfl, hlen3⟩ := list_cons hlen2
  obtain ⟨x3, s3, rfl, hlen4⟩ := list_cons hlen3
  obtain ⟨x4, s4, rfl, hlen5⟩ := list_cons hlen4
  obtain ⟨x5, s5, rfl, hlen6⟩ := list_cons hlen5
  obtain ⟨x6, s6, rfl, hlen7⟩ := list_cons hlen6
  obtain ⟨x7, rfl⟩ := list_one hlen7
  have h0 : DataW.trod enc Tryz.prog W base sp held k 3 (([c0, c1, c2, c3, c4, c5, c6, c7, c8, c9].drop 0).take (Tryz.prog.cellsOf 3)) = some x0 := hf 0 _ rfl
  rw [cells3] at h0
  have h0 : DataW.trod enc Tryz.prog W base sp held k 3 [c0] = some x0 := h0
  have h1 : DataW.trod enc Tryz.prog W base sp held k 3 (([c0, c1, c2, c3, c4, c5, c6, c7, c8, c9].drop 1).take (Tryz.prog.cellsOf 3)) = some x1 := hf 1 _ rfl
  rw [cells3] at h1
  have h1 : DataW.trod enc Tryz.prog W base sp held k 3 [c1] = some x1 := h1
  have h2 : DataW.trod enc Tryz.prog W base sp held k 4 (([c0, c1, c2, c3, c4, c5, c6, c7, c8, c9].drop 2).take (Tryz.prog.cellsOf 4)) = some x2 := hf 2 _ rfl
  rw [cells4] at h2
  have h2 : DataW.trod enc Tryz.prog W base sp held k 4 [c2] = some x2 := h2
  have h3 : DataW.trod enc Tryz.prog W base sp held k 38 (([c0, c1, c2, c3, c4, c5, c6, c7, c8, c9].drop 3).take (Tryz.prog.cellsOf 38)) = some x3 := hf 3 _ rfl
  rw [cells38] at h3
  have h3 : DataW.trod enc Tryz.prog W base sp held k 38 [c3, c4, c5] = some x3 := h3
  have h4 : DataW.trod enc Tryz.prog W base sp held k 9 (([c0, c1, c2, c3, c4, c5, c6, c7, c8, c9].drop 6).take (Tryz.prog.cellsOf 9)) = some x4 := hf 4 _ rfl
  rw [cells9] at h4
  have h4 : DataW.trod enc Tryz.prog W base sp held k 9 [c6] = some x4 := h4
  have h5 : DataW.trod enc Tryz.prog W base sp held k 9 (([c0, c1, c2, c3, c4, c5, c6, c7, c8, c9].drop 7).take (Tryz.prog.cellsOf 9)) = some x5 := hf 5 _ rfl
  rw [cells9] at h5
  have h5 : DataW.trod enc Tryz.prog W base sp held k 9 [c7] = some x5 := h5
  have h6 : DataW.trod enc Tryz.prog W base sp held k 39 (([c0, c1, c2, c3, c4, c5, c6, c7, c8, c9].drop 8).take (Tryz.prog.cellsOf 39)) = some x6 := hf 6 _ rfl
  rw [cells39] at h6
  have h6 : DataW.trod enc Tryz.prog W base sp held k 39 [c8] = some x6 := h6
  have h7 : DataW.trod enc Tryz.prog W base sp held k 40 (([c0, c1, c2, c3, c4, c5, c6, c7, c8, c9].drop 9).take (Tryz.prog.cellsOf 40)) = some x7 := hf 7 _ rfl
  rw [cells40] at h7
  have h7 : DataW.trod enc Tryz.prog W base sp held k 40 [c9] = some x7 := h7
  obtain ⟨n0, e0, _, w0⟩ := DataW.trod_int Tryz.underlying3 h0
  obtain ⟨n1, e1, _, w1⟩ := DataW.trod_int Tryz.underlying3 h1
  obtain ⟨n2, e2, _⟩ := DataW.trod_bool Tryz.underlying4 h2
  obtain ⟨n3, e3, b3, w3⟩ := read_val h3
  obtain ⟨n4, e4, _, b4⟩ := DataW.trod_string Tryz.underlying9 h4
  obtain ⟨n5, e5, _, b5⟩ := DataW.trod_string Tryz.underlying9 h5
  obtain ⟨n6, v6, F6, e6, q6⟩ := read_slice (row := fun y : {x : Expr // RExpr x} => y.1.row) Tryz.underlying39 cells42 (by decide) (fun y => Expr.row_len y.1) (fun n' cs' x' hn h' => (ih n' (by omega)).1 _ _ h') h6
  obtain ⟨n7, v7, F7, e7, q7⟩ := read_slice (row := fun y : {x : Query // RQuery x} => y.1.row) Tryz.underlying40 cells123 (by decide) (fun y => Query.row_len y.1) (fun n' cs' x' hn h' => (ih n' (by omega)).2.2.2.2 _ _ h') h7
  simp only [List.cons.injEq, and_true] at e0 e1 e2 e3 e4 e5 e6 e7
  obtain ⟨e3, e3', e3''⟩ := e3
  subst e0 e1 e2 e3 e3' e3'' e4 e5 e6 e7
  refine ⟨⟨Expr.mk n0 n1 n2 n3 n4 n5 (n6.map Subtype.val) (n7.map Subtype.val), Rg.mk ⟨w3.1, w3.2⟩ sub_mem (fun q hq => (sub_mem q hq).1) (fun q hq => (sub_mem q hq).2)⟩, (F6 ++ (F7 ++ [])), ?_⟩
  rw [Expr.row_mk]
  exact (vf_lit ⟨_, ⟨rfl, rfl, trivial⟩, rfl⟩ (vf_lit ⟨_, ⟨rfl, rfl, trivial⟩, rfl⟩ (vf_lit ⟨_, ⟨rfl, rfl, trivial⟩, rfl⟩ (vf_lit ⟨_, ⟨rfl, rfl, trivial⟩, rfl⟩ (vf_lit ⟨_, ⟨rfl, rfl, trivial⟩, rfl⟩ (vf_lit ⟨_, ⟨rfl, rfl, b3⟩, rfl⟩ (vf_lit ⟨_, ⟨rfl, rfl, b4⟩, rfl⟩ (vf_lit ⟨_, ⟨rfl, rfl, b5⟩, rfl⟩ (vf_sl (cell_sub q6) (vf_sl (cell_sub q7) vf_nil))))))))))
 ·skip
  obtain ⟨xs, k, hk, _, hl, hlen, hf⟩ := DataW.trod_struct Tryz.underlying199 h
  rw [cells199] at hl
  obtain ⟨c0, r0, rfl, hl1⟩ := list_cons hl
  obtain ⟨c1, r1, rfl, hl2⟩ := list_cons hl1
  obtain ⟨c2, r2, rfl, hl3⟩ := list_cons hl2
  obtain ⟨c3, r3, rfl, hl4⟩ := list_cons hl3
  obtain ⟨c4, r4, rfl, hl5⟩ := list_cons hl4
  obtain ⟨c5, r5, rfl, hl6⟩ := list_cons hl5
  obtain ⟨c6, r6, rfl, hl7⟩ := list_cons hl6
  obtain ⟨c7, r7, rfl, hl8⟩ := list_cons hl7
  obtain ⟨c8, r8, rfl, hl9⟩ := list_cons hl8
  obtain ⟨c9, r9, rfl, hl10⟩ := list_cons hl9
  obtain ⟨c10, r10, rfl, hl11⟩ := list_cons hl10
  obtain ⟨c11, r11, rfl, hl12⟩ := list_cons hl11
  obtain ⟨c12, rfl⟩ := list_one hl12
  obtain ⟨x0, s0, rfl, hlen1⟩ := list_cons hlen
  obtain ⟨x1, s1, rfl, hlen2⟩ := list_cons hlen1
  obtain ⟨x2, s2, rfl, hlen3⟩ := list_cons hlen2
  obtain ⟨x3, rfl⟩ := list_one hlen3
  have h0 : DataW.trod enc Tryz.prog W base sp held k 4 (([c0, c1, c2, c3, c4, c5, c6, c7, c8, c9, c10, c11, c12].drop 0).take (Tryz.prog.cellsOf 4)) = some x0 := hf 0 _ rfl
  rw [cells4] at h0
  have h0 : DataW.trod enc Tryz.prog W base sp held k 4 [c0] = some x0 := h0
  have h1 : DataW.trod enc Tryz.prog W base sp held k 9 (([c0, c1, c2, c3, c4, c5, c6, c7, c8, c9, c10, c11, c12].drop 1).take (Tryz.prog.cellsOf 9)) = some x1 := hf 1 _ rfl
  rw [cells9] at h1
  have h1 : DataW.trod enc Tryz.prog W base sp held k 9 [c1] = some x1 := h1
  have h2 : DataW.trod enc Tryz.prog W base sp held k 42 (([c0, c1, c2, c3, c4, c5, c6, c7, c8, c9, c10, c11, c12].drop 2).take (Tryz.prog.cellsOf 42)) = some x2 := hf 2 _ rfl
  rw [cells42] at h2
  have h2 : DataW.trod enc Tryz.prog W base sp held k 42 [c2, c3, c4, c5, c6, c7, c8, c9, c10, c11] = some x2 := h2
  have h3 : DataW.trod enc Tryz.prog W base sp held k 9 (([c0, c1, c2, c3, c4, c5, c6, c7, c8, c9, c10, c11, c12].drop 12).take (Tryz.prog.cellsOf 9)) = some x3 := hf 3 _ rfl
  rw [cells9] at h3
  have h3 : DataW.trod enc Tryz.prog W base sp held k 9 [c12] = some x3 := h3
  obtain ⟨n0, e0, _⟩ := DataW.trod_bool Tryz.underlying4 h0
  obtain ⟨n1, e1, _, b1⟩ := DataW.trod_string Tryz.underlying9 h1
  obtain ⟨n2, F2, e2⟩ := (ih k (by omega)).1 _ _ h2
  obtain ⟨n3, e3, _, b3⟩ := DataW.trod_string Tryz.underlying9 h3
  simp only [List.cons.injEq, and_true] at e0 e1 e3
  subst e0 e1 e3
  refine ⟨⟨Item.mk n0 n1 n2.1 n3, n2.2⟩, (F2 ++ []), ?_⟩
  rw [Item.row_mk]
  exact (vf_lit ⟨_, ⟨rfl, rfl, trivial⟩, rfl⟩ (vf_lit ⟨_, ⟨rfl, rfl, b1⟩, rfl⟩ (vf_app e2 (vf_lit ⟨_, ⟨rfl, rfl, b3⟩, rfl⟩ vf_nil))))
 ·skip
  obtain ⟨xs, k, hk, _, hl, hlen, hf⟩ := DataW.trod_struct Tryz.underlying202 h
  rw [cells202] at hl
  obtain ⟨c0, r0, rfl, hl1⟩ := list_cons hl
  obtain ⟨c1, r1, rfl, hl2⟩ := list_cons hl1
  obtain ⟨c2, rfl⟩ := list_one hl2
  obtain ⟨x0, s0, rfl, hlen1⟩ := list_cons hlen
  obtain ⟨x1, s1, rfl, hlen2⟩ := list_cons hlen1
  obtain ⟨x2, rfl⟩ := list_one hlen2
  have h0 : DataW.trod enc Tryz.prog W base sp held k 9 (([c0, c1, c2].drop 0).take (Tryz.prog.cellsOf 9)) = some x0 := hf 0 _ rfl
  rw [cells9] at h0
  have h0 : DataW.trod enc Tryz.prog W base sp held k 9 [c0] = some x0 := h0
  have h1 : DataW.trod enc Tryz.prog W base sp held k 9 (([c0, c1, c2].drop 1).take (Tryz.prog.cellsOf 9)) = some x1 := hf 1 _ rfl
  rw [cells9] at h1
  have h1 : DataW.trod enc Tryz.prog W base sp held k 9 [c1] = some x1 := h1
  have h2 : DataW.trod enc Tryz.prog W base sp held k 39 (([c0, c1, c2].drop 2).take (Tryz.prog.cellsOf 39)) = some x2 := hf 2 _ rfl
  rw [cells39] at h2
  have h2 : DataW.trod enc Tryz.prog W base sp held k 39 [c2] = some x2 := h2
  obtain ⟨n0, e0, _, b0⟩ := DataW.trod_string Tryz.underlying9 h0
  obtain ⟨n1, e1, _, b1⟩ := DataW.trod_string Tryz.underlying9 h1
  obtain ⟨n2, v2, F2, e2, q2⟩ := read_slice (row := fun y : {x : Expr // RExpr x} => y.1.row) Tryz.underlying39 cells42 (by decide) (fun y => Expr.row_len y.1) (fun n' cs' x' hn h' => (ih n' (by omega)).1 _ _ h') h2
  simp only [List.cons.injEq, and_true] at e0 e1 e2
  subst e0 e1 e2
  refine ⟨⟨Source.mk n0 n1 (n2.map Subtype.val), fun e he => sub_mem (R := RExpr) e he⟩, (F2 ++ []), ?_⟩
  rw [Source.row_mk]
  exact (vf_lit ⟨_, ⟨rfl, rfl, b0⟩, rfl⟩ (vf_lit ⟨_, ⟨rfl, rfl, b1⟩, rfl⟩ (vf_sl (cell_sub q2) vf_nil)))
 ·skip
  obtain ⟨xs, k, hk, _, hl, hlen, hf⟩ := DataW.trod_struct Tryz.underlying205 h
  rw [cells205] at hl
  obtain ⟨c0, r0, rfl, hl1⟩ := list_cons hl
  obtain ⟨c1, r1, rfl, hl2⟩ := list_cons hl1
  obtain ⟨c2, r2, rfl, hl3⟩ := list_cons hl2
  obtain ⟨c3, r3, rfl, hl4⟩ := list_cons hl3
  obtain ⟨c4, r4, rfl, hl5⟩ := list_cons hl4
  obtain ⟨c5, r5, rfl, hl6⟩ := list_cons hl5
  obtain ⟨c6, r6, rfl, hl7⟩ := list_cons hl6
  obtain ⟨c7, r7, rfl, hl8⟩ := list_cons hl7
  obtain ⟨c8, r8, rfl, hl9⟩ := list_cons hl8
  obtain ⟨c9, r9, rfl, hl10⟩ := list_cons hl9
  obtain ⟨c10, rfl⟩ := list_one hl10
  obtain ⟨x0, s0, rfl, hlen1⟩ := list_cons hlen
  obtain ⟨x1, rfl⟩ := list_one hlen1
  have h0 : DataW.trod enc Tryz.prog W base sp held k 42 (([c0, c1, c2, c3, c4, c5, c6, c7, c8, c9, c10].drop 0).take (Tryz.prog.cellsOf 42)) = some x0 := hf 0 _ rfl
  rw [cells42] at h0
  have h0 : DataW.trod enc Tryz.prog W base sp held k 42 [c0, c1, c2, c3, c4, c5, c6, c7, c8, c9] = some x0 := h0
  have h1 : DataW.trod enc Tryz.prog W base sp held k 4 (([c0, c1, c2, c3, c4, c5, c6, c7, c8, c9, c10].drop 10).take (Tryz.prog.cellsOf 4)) = some x1 := hf 1 _ rfl
  rw [cells4] at h1
  have h1 : DataW.trod enc Tryz.prog W base sp held k 4 [c10] = some x1 := h1
  obtain ⟨n0, F0, e0⟩ := (ih k (by omega)).1 _ _ h0
  obtain ⟨n1, e1, _⟩ := DataW.trod_bool Tryz.underlying4 h1
  simp only [List.cons.injEq, and_true] at e1
  subst e1
  refine ⟨⟨SortKey.mk n0.1 n1, n0.2⟩, (F0 ++ []), ?_⟩
  rw [SortKey.row_mk]
  exact (vf_app e0 (vf_lit ⟨_, ⟨rfl, rfl, trivial⟩, rfl⟩ vf_nil))
 ·skip
  obtain ⟨xs, k, hk, _, hl, hlen, hf⟩ := DataW.trod_struct Tryz.underlying123 h
  rw [cells123] at hl
  obtain ⟨c0, r0, rfl, hl1⟩ := list_cons hl
  obtain ⟨c1, r1, rfl, hl2⟩ := list_cons hl1
  obtain ⟨c2, r2, rfl, hl3⟩ := list_cons hl2
  obtain ⟨c3, r3, rfl, hl4⟩ := list_cons hl3
  obtain ⟨c4, r4, rfl, hl5⟩ := list_cons hl4
  obtain ⟨c5, rfl⟩ := list_one hl5
  obtain ⟨x0, s0, rfl, hlen1⟩ := list_cons hlen
  obtain ⟨x1, s1, rfl, hlen2⟩ := list_cons hlen1
  obtain ⟨x2, s2, rfl, hlen3⟩ := list_cons hlen2
  obtain ⟨x3, s3, rfl, hlen4⟩ := list_cons hlen3
  obtain ⟨x4, s4, rfl, hlen5⟩ := list_cons hlen4
  obtain ⟨x5, rfl⟩ := list_one hlen5
  have h0 : DataW.trod enc Tryz.prog W base sp held k 4 (([c0, c1, c2, c3, c4, c5].drop 0).take (Tryz.prog.cellsOf 4)) = some x0 := hf 0 _ rfl
  rw [cells4] at h0
  have h0 : DataW.trod enc Tryz.prog W base sp held k 4 [c0] = some x0 := h0
  have h1 : DataW.trod enc Tryz.prog W base sp held k 119 (([c0, c1, c2, c3, c4, c5].drop 1).take (Tryz.prog.cellsOf 119)) = some x1 := hf 1 _ rfl
  rw [cells119] at h1
  have h1 : DataW.trod enc Tryz.prog W base sp held k 119 [c1] = some x1 := h1
  have h2 : DataW.trod enc Tryz.prog W base sp held k 120 (([c0, c1, c2, c3, c4, c5].drop 2).take (Tryz.prog.cellsOf 120)) = some x2 := hf 2 _ rfl
  rw [cells120] at h2
  have h2 : DataW.trod enc Tryz.prog W base sp held k 120 [c2] = some x2 := h2
  have h3 : DataW.trod enc Tryz.prog W base sp held k 39 (([c0, c1, c2, c3, c4, c5].drop 3).take (Tryz.prog.cellsOf 39)) = some x3 := hf 3 _ rfl
  rw [cells39] at h3
  have h3 : DataW.trod enc Tryz.prog W base sp held k 39 [c3] = some x3 := h3
  have h4 : DataW.trod enc Tryz.prog W base sp held k 121 (([c0, c1, c2, c3, c4, c5].drop 4).take (Tryz.prog.cellsOf 121)) = some x4 := hf 4 _ rfl
  rw [cells121] at h4
  have h4 : DataW.trod enc Tryz.prog W base sp held k 121 [c4] = some x4 := h4
  have h5 : DataW.trod enc Tryz.prog W base sp held k 3 (([c0, c1, c2, c3, c4, c5].drop 5).take (Tryz.prog.cellsOf 3)) = some x5 := hf 5 _ rfl
  rw [cells3] at h5
  have h5 : DataW.trod enc Tryz.prog W base sp held k 3 [c5] = some x5 := h5
  obtain ⟨n0, e0, _⟩ := DataW.trod_bool Tryz.underlying4 h0
  obtain ⟨n1, v1, F1, e1, q1⟩ := read_slice (row := fun y : {x : Item // RItem x} => y.1.row) Tryz.underlying119 cells199 (by decide) (fun y => Item.row_len y.1) (fun n' cs' x' hn h' => (ih n' (by omega)).2.1 _ _ h') h1
  obtain ⟨n2, v2, F2, e2, q2⟩ := read_slice (row := fun y : {x : Source // RSource x} => y.1.row) Tryz.underlying120 cells202 (by decide) (fun y => Source.row_len y.1) (fun n' cs' x' hn h' => (ih n' (by omega)).2.2.1 _ _ h') h2
  obtain ⟨n3, v3, F3, e3, q3⟩ := read_slice (row := fun y : {x : Expr // RExpr x} => y.1.row) Tryz.underlying39 cells42 (by decide) (fun y => Expr.row_len y.1) (fun n' cs' x' hn h' => (ih n' (by omega)).1 _ _ h') h3
  obtain ⟨n4, v4, F4, e4, q4⟩ := read_slice (row := fun y : {x : SortKey // RSortKey x} => y.1.row) Tryz.underlying121 cells205 (by decide) (fun y => SortKey.row_len y.1) (fun n' cs' x' hn h' => (ih n' (by omega)).2.2.2.1 _ _ h') h4
  obtain ⟨n5, e5, _, w5⟩ := DataW.trod_int Tryz.underlying3 h5
  simp only [List.cons.injEq, and_true] at e0 e1 e2 e3 e4 e5
  subst e0 e1 e2 e3 e4 e5
  refine ⟨⟨Query.mk n0 (n1.map Subtype.val) (n2.map Subtype.val) (n3.map Subtype.val) (n4.map Subtype.val) n5, ⟨(wf64 w5).2, fun x hx => by
   simp only [exprsQ, List.mem_append] at hx
   rcases hx with ((hx | hx) | hx) | hx
   ·simp only [exprsI, List.mem_map, List.mem_filter] at hx
    obtain ⟨y, ⟨hy, _⟩, rfl⟩ := hx
    obtain ⟨z, _, rfl⟩ := hy
    exact z.2
   ·simp only [List.mem_flatMap] at hx
    obtain ⟨y, hy, hx⟩ := hx
    exact sub_mem y hy x hx
   ·exact sub_mem x hx
   ·simp only [List.mem_map] at hx
    obtain ⟨y, hy, rfl⟩ := hx
    obtain ⟨z, _, rfl⟩ := hy
    exact z.2⟩⟩, (F1 ++ (F2 ++ (F3 ++ (F4 ++ [])))), ?_⟩
  rw [Query.row_mk]
  exact (vf_lit ⟨_, ⟨rfl, rfl, trivial⟩, rfl⟩ (vf_sl (cell_sub q1) (vf_sl (cell_sub q2) (vf_sl (cell_sub q3) (vf_sl (cell_sub q4) (vf_lit ⟨_, ⟨rfl, rfl, trivial⟩, rfl⟩ vf_nil))))))
end
end Go.Proofs.YtabhiapifcanoaaGreatDoor
set_option maxRecDepth 8000
namespace Go.Dv
open Go Go.ChangeShapes Go.WideShapes
theorem returnsInHanded_both {H : Type} {enc : TypeId × Value → H} {a : Assume} {C : Checked} {os : Os} {f : FuncId} {fn : Func} {s : ChangeSpec} {conds : List PathCond} {apart fresh handsOn again : Bool} {X : World → Array Value → Prop}
 (hX : ∀ (w w' : World) (args : Array Value), w.heap = w'.heap → X w args → X w' args)
 (own : ownKnob C.prog.godebug = none) (started : os.Started) (noInit : C.prog.inits.idxOf? f = none) (hfn : C.prog.funcs[f]? = some fn)
 (witness : ∃ (w : World) (tape : Tape) (i : Input), w.os = os ∧ (w.forCall tape i).Shaped C.prog ∧ i.vars = [] ∧ Input.okWide C.prog (w.forCall tape i) .any w.heap.size f i ∧
   ((s.pre enc C.prog fn conds apart (w.forCall tape i).memory i.args ∧ X (w.forCall tape i).memory i.args) ∧ sizedMet enc C.prog fn (OpenSpec.ofChange s) apart (w.forCall tape i).memory i.args) ∧ a.holds C.prog (lone (Frame.enter C.prog f i.args .normal) [] (w.forCall tape i)))
 (contract : ∀ (W : World) (base : Nat) (args : Array Value) (ds gs : List (DataW H)) (before : List MemPlace),
   (∀ (j : Nat) t v, fn.params[j]? = some t → args[j]? = some v → Value.okWide C.prog W .any base t v) →
   DataW.Whole enc C.prog fn.params.toList s.vars apart W args.toList ds gs before →
   conds.all (PathCond.test C.prog ⟨fn.params.toList, ds, s.plain.varTypes C.prog, gs⟩) = true →
   X W args → W.ShapedOpen C.prog →
   Calls C.prog f args W fun e W' => ∃ v, e = .returned v ∧ s.post enc C.prog fn apart fresh handsOn again W args v W') :
 ReturnsInHanded a C os f .any (fun w args => (s.pre enc C.prog fn conds apart w args ∧ X w args) ∧ sizedMet enc C.prog fn (OpenSpec.ofChange s) apart w args) (s.post enc C.prog fn apart fresh handsOn again) := by
 refine returnsInHanded_of_calls own started noInit witness ?_
 intro w tape i _ hsh _ hok hpre hholds
 obtain ⟨_, _, _, fn', hfn', _, _, _, _, hval⟩ := hok
 have e : fn' = fn := Option.some.inj (hfn'.symm.trans hfn)
 subst e
 obtain ⟨⟨⟨ds, gs, before, hw, hc⟩, hx⟩, _⟩ := hpre
 have hw' := DataW.Whole.of_heap (w' := w.forCall tape i) (by rfl) hw
 refine (contract (w.forCall tape i) w.heap.size i.args ds gs before hval hw' hc (hX _ _ _ (by rfl) hx) hsh).mono fun e W' ⟨v, he, hp⟩ => ?_
 subst he
 exact ChangeSpec.post_blind hp
theorem post_old {H : Type} {enc : TypeId × Value → H} {P : Program} {f : Func} {s : ChangeSpec} {apart fresh handsOn again : Bool} {W W' : World} {args : Array Value} {v : Value} {ds gs : List (DataW H)} {before pa pv : List MemPlace}
 (hW : DataW.Whole enc P f.params.toList s.vars apart W args.toList ds gs before)
 (hres : ∀ (b : Nat) (sp : Nat → Bool) (hd : Bool), DataW.TrodAll enc P W' b sp hd f.resultTypes.toList (v.resultList f.resultTypes.size) (s.fn H (ds ++ gs)).results [])
 (hargs : ∀ sp : Nat → Bool, (∀ p ∈ before, sp p.block = true) → DataW.TrodAll enc P W' 0 sp true f.params.toList args.toList (s.fn H (ds ++ gs)).args pa)
 (hvars : ∀ sp : Nat → Bool, (∀ p ∈ before, sp p.block = true) → DataW.TrodVars enc P W' sp s.vars (s.fn H (ds ++ gs)).vars pv)
 (hps : before = pa ++ pv) (hk : W.keptBut W' (· ∈ before)) (hfz : ∀ a : Addr, a.block < W.heap.size → W'.frozen? a = W.frozen? a)
 (hok : ∀ (j : Nat) (t : TypeId) (r : Value), f.resultTypes[j]? = some t → (v.resultList f.resultTypes.size)[j]? = some r → Value.okWide P W' .any 0 t r) :
 s.post enc P f apart fresh handsOn again W args v W' := by
 have hold : ∀ p ∈ before, (fun b => decide (b < W.heap.size)) p.block = true := fun p hp => by simpa using hW.lt p hp
 have hlt : ∀ p ∈ before, p.block < W.heap.size := fun p hp => hW.lt p hp
 refine ⟨ds, gs, before, [], pa, pv, hW, hres _ _ _, hargs _ hold, hvars _ hold, World.keptBut_mono (fun p hp => ⟨hp, ?_⟩) hk, fun _ => ?_⟩
 ·rw [hps, List.mem_append] at hp
  exact Or.inr hp
 ·obtain ⟨_, _, _, _, _, hz, hn⟩ := hW
  refine ⟨hok, _, _, ([] ++ pa) ++ pv, ⟨[] ++ pa, pv, trodAll_append (hargs _ (fun _ _ => rfl)) (hres _ _ _), hvars _ (fun _ _ => rfl), rfl, ?_, ?_⟩, ?_⟩
  ·intro b off hp
   have hp' : MemPlace.cell b off ∈ before := by rw [hps]; simpa using hp
   rw [hfz ⟨b, off, none⟩ (hlt _ hp')]
   exact hz b off hp'
  ·intro ha
   have := hn ha
   rw [hps] at this
   simpa using this
  ·intro p hp _
   rw [hps]
   simpa using hp
theorem glw_of {P : Program} {W : World} {t tp4 tp5 : TypeId} {zero : Array Value} {n1 n4 n5 : String} {a4 a5 : Value} (h1 : P.globalNamed n1 = some 2) (ht : Lib.TabIs P W n1 .u64 Lib.pow10Tab)
 (h : W.ShapedOpen P) (hg : 3 < P.globals.size) (hr : ((begin P (fun _ _ => 0) default).world.heap[3]?).bind Obj.row? = some (zero, t)) (hz : zero.size = 1)
 (hb : P.buildable t = true) (hc : P.cellTypes P.depth t = some [t]) (hu : P.underlying t = some (.int .i64))
 (g4 : P.globalNamed n4 = some 0) (v4 : W.var? P n4 = some #[.iface tp4 a4]) (g5 : P.globalNamed n5 = some 1) (v5 : W.var? P n5 = some #[.iface tp5 a5]) : GlW W (fun _ => False) := by
 intro x hx
 simp only [libVars, List.mem_cons, List.not_mem_nil, or_false] at hx
 rcases hx with rfl | rfl | rfl | rfl
 ·refine ⟨id, ?_⟩
  unfold Lib.TabIs World.var? at ht
  rw [h1, Option.bind_some] at ht
  split at ht
  ·rename_i cs ty lh hh
   exact ⟨cs, ty, lh, hh, Option.some.inj ht⟩
  ·cases ht
 ·refine ⟨id, ?_⟩
  obtain ⟨m, hm⟩ := Go.Proofs.cell_of_shapedOpen_int h hg hr hz hb hc hu
  unfold World.cell? at hm
  simp only at hm
  split at hm
  ·rename_i cs ty lh hh
   exact ⟨cs, ty, lh, hh, m, hm⟩
  ·cases hm
 ·refine ⟨id, ?_⟩
  unfold World.var? at v4
  rw [g4, Option.bind_some] at v4
  split at v4
  ·rename_i cs ty lh hh
   obtain rfl := Option.some.inj v4
   exact ⟨_, ty, lh, hh, _, rfl, .inr ⟨_, _, rfl⟩⟩
  ·cases v4
 ·refine ⟨id, ?_⟩
  unfold World.var? at v5
  rw [g5, Option.bind_some] at v5
  split at v5
  ·rename_i cs ty lh hh
   obtain rfl := Option.some.inj v5
   exact ⟨_, ty, lh, hh, _, rfl, .inr ⟨_, _, rfl⟩⟩
  ·cases v5
end Go.Dv
namespace Go.Proofs.YtabhiapifcanoaaGreatDoor
open Go Go.Dv Go.ChangeShapes Go.WideShapes Go.ChangeAt Go.RowKit
open Go.Vc (D CellF ValsF read_slice list_cons list_one)
section
variable {H : Type} {enc : TypeId × Value → H} {W : World} {base : Nat} {sp : Nat → Bool} {held : Bool}
theorem cells75 : Tryz.prog.cellsOf 75 = 3 := by kernel_rfl
theorem read_Tok {n : Nat} {cs : List Value} {x : DataW H × List MemPlace} (h : DataW.trod enc Tryz.prog W base sp held n 75 cs = some x) : ∃ (y : Tok) (F : List Nat), ValsF W y.row cs F := by
 obtain ⟨xs, k, hk, _, hl, hlen, hf⟩ := DataW.trod_struct Tryz.underlying75 h
 rw [cells75] at hl
 obtain ⟨c0, r0, rfl, hl1⟩ := list_cons hl
 obtain ⟨c1, r1, rfl, hl2⟩ := list_cons hl1
 obtain ⟨c2, rfl⟩ := list_one hl2
 obtain ⟨x0, s0, rfl, hlen1⟩ := list_cons hlen
 obtain ⟨x1, s1, rfl, hlen2⟩ := list_cons hlen1
 obtain ⟨x2, rfl⟩ := list_one hlen2
 have h0 : DataW.trod enc Tryz.prog W base sp held k 3 (([c0, c1, c2].drop 0).take (Tryz.prog.cellsOf 3)) = some x0 := hf 0 _ rfl
 rw [cells3] at h0
 have h0 : DataW.trod enc Tryz.prog W base sp held k 3 [c0] = some x0 := h0
 have h1 : DataW.trod enc Tryz.prog W base sp held k 9 (([c0, c1, c2].drop 1).take (Tryz.prog.cellsOf 9)) = some x1 := hf 1 _ rfl
 rw [cells9] at h1
 have h1 : DataW.trod enc Tryz.prog W base sp held k 9 [c1] = some x1 := h1
 have h2 : DataW.trod enc Tryz.prog W base sp held k 3 (([c0, c1, c2].drop 2).take (Tryz.prog.cellsOf 3)) = some x2 := hf 2 _ rfl
 rw [cells3] at h2
 have h2 : DataW.trod enc Tryz.prog W base sp held k 3 [c2] = some x2 := h2
 obtain ⟨n0, e0, _, w0⟩ := DataW.trod_int Tryz.underlying3 h0
 obtain ⟨n1, e1, _, b1⟩ := DataW.trod_string Tryz.underlying9 h1
 obtain ⟨n2, e2, _, w2⟩ := DataW.trod_int Tryz.underlying3 h2
 simp only [List.cons.injEq, and_true] at e0 e1 e2
 subst e0 e1 e2
 exact ⟨⟨n0, n1, n2⟩, [], (vf_lit ⟨_, ⟨rfl, rfl, trivial⟩, rfl⟩ (vf_lit ⟨_, ⟨rfl, rfl, b1⟩, rfl⟩ (vf_lit ⟨_, ⟨rfl, rfl, trivial⟩, rfl⟩ vf_nil)))⟩
theorem read_Toks {n : Nat} {cs : List Value} {x : DataW H × List MemPlace} (h : DataW.trod enc Tryz.prog W base sp held n 37 cs = some x) : ∃ (l : List Tok) (v : Value) (F : List Nat), cs = [v] ∧ CellF W (.sl l.length (l.flatMap Tok.row)) v F :=
 read_slice (row := Tok.row) Tryz.underlying37 cells75 (by decide) Tok.row_len (fun _ _ _ _ h' => read_Tok h') h
end
theorem own : ownKnob Tryz.prog.godebug = none := by kernel_rfl
theorem laidOut : laidOutB Tryz.prog = true := by kernel_rfl
theorem star : "*" ++ "errors.errorString" = "*errors.errorString" := by decide
theorem row247 (u : TypeId) (h : Tryz.prog.typeName? 3 u = some "*errors.errorString") : u = 247 :=
 typeName_ptr_named (nm := "errors.errorString") (by rw [star]; kernel_rfl) (by kernel_rfl) (by decide) u (by rw [star]; exact h)
theorem cells249 : Tryz.prog.cellsOf 249 = 1 := by kernel_rfl
theorem gr_frozen {W W' : World} (g : Go.Cv.Gr W W') : ∀ a : Addr, a.block < W.heap.size → W'.frozen? a = W.frozen? a := fun a ha => by
 unfold World.frozen?
 rw [g.keep a.block ha]
end Go.Proofs.YtabhiapifcanoaaGreatDoor
