/-
  The program and the reference print expressions alike, for all arguments: FnExactExprText holds.
  Conditions: none.
-/
import Derived.Test.YtfdcibofiibppaaGreatDoorFTextF
import Derived.Shelf.Strings.BuilderF
import Derived.Shelf.LaysM
import Derived.Shelf.LaysC
import Derived.Shelf.Strconv.Itoa3
import Derived.Shelf.Strings.Split
import Derived.Shelf.Strings.Replace
import Derived.Shelf.Strconv.AtoiAll
import Derived.Test.YtfdcibofiibppaaGreatDoorProg
import Derived.Lib.UnsafeStr
import Derived.Lib.AtoiTie
import Derived.Test.YtfdcibofiibppaaGreatDoorRows
import Derived.ProofKit
import Derived.OpenShut
import Derived.Lib.LaidTab
import Derived.Stop.LaidErr
import Derived.MakeChecks
import Derived.Lay
import Derived.Test.YtfdcibofiibppaaGreatDoorTie
import Derived.Test.YtfdcibofiibppaaGreatDoorCards
import Derived.SevenTiedAt
import Derived.RowKitTokens
set_option linter.unusedVariables false
set_option linter.unusedSimpArgs false


set_option maxRecDepth 8000
namespace Go.Proofs.YtfdcibofiibppaaGreatDoor
open Go Go.Dv
open Go.Vc (D shrI xorI andI and255)

noncomputable def exToks (e : Expr) : List Tok := if okE e = true then tkE false e else []
theorem exToks_small (e : Expr) (hr : Rg e) : (∀ t ∈ exToks e, t.text.size ≤ 1048576) ∧ (joinL (exToks e) (exToks e).length).length ≤ 50000000 := by
  unfold exToks
  split
  · rename_i h
    exact (toks_small false e hr h).2.2
  · exact ⟨fun t h => (by cases h), (by decide)⟩
theorem ExprTokens_d (e : Expr) (hr : Rg e) (hsz : szExpr e ≤ 1048576) : Cl Tryz.prog 36 [.ag (csOf e.row)] [] fun r _ => r = .c (.sl (exToks e).length ((exToks e).flatMap Tok.row) none) := by
  have c1 := ExprOk_d e hsz
  have ht := toks_small false e hr
  have he := l10Expr_d false e
  unfold exToks
  generalize tkE false e = l at *
  cases hb : okE e
  case false =>
    rw [hb] at c1
    obtain ⟨kind, op, not, val, qual, name, kids, sub⟩ := e
    rw [Expr.row_mk] at c1 ⊢
    refine cl_of_d follows_mixed false Tryz.func36 rfl (by kernel_rfl) ?_
    simp only [Tryz.f36, tt, seval]
    refine call0 (c1) ?_ ?_ ?_
    · decide
    · simp only [tt, seval]
    rintro r rfl
    simp only [tt, seval]
    refine ⟨_, [], rfl, endOk ?_⟩
    simp only [tt, seval, Bool.false_eq_true, if_false, List.length_nil, List.flatMap_nil]
  case true =>
    rw [hb] at c1
    obtain ⟨hf, h1, h2, h3⟩ := ht hb
    have he : ∀ out : List Tok, out.length + l.length ≤ 1000000 → Cl Tryz.prog 26 [.c (.ow 95 (out).length ((out).flatMap Tok.row) none), .ag (csOf e.row), vb false] [] fun r _ => r = .c (.ow 95 (out ++ l).length ((out ++ l).flatMap Tok.row) none) := he hf hr hsz
    obtain ⟨kind, op, not, val, qual, name, kids, sub⟩ := e
    rw [Expr.row_mk] at c1 he ⊢
    refine cl_of_d follows_mixed false Tryz.func36 rfl (by kernel_rfl) ?_
    simp only [Tryz.f36, tt, seval]
    refine call0 (c1) ?_ ?_ ?_
    · decide
    · simp only [tt, seval]
    rintro r rfl
    simp only [tt, seval]
    refine call0 (he [] (by simp only [List.length_nil]; omega)) ?_ ?_ ?_
    · decide
    · simp only [tt, seval, List.flatMap_nil, List.length_nil]
    rintro r rfl
    simp only [tt, seval, List.flatMap_nil, List.length_nil]
    refine ⟨_, [], rfl, endOk ?_⟩
    simp only [tt, seval, if_true]
theorem iExprTokens_d (e : Expr) (hr : Rg e) (hsz : szExpr e ≤ 1048576) : Cl Tryz.prog 37 [.ag (csOf e.row)] [] fun r _ => r = .c (.sl (exToks e).length ((exToks e).flatMap Tok.row) none) := by
  have c1 := iExprOk_d e hsz
  have ht := toks_small false e hr
  have he := expr_d false e
  unfold exToks
  generalize tkE false e = l at *
  cases hb : okE e
  case false =>
    rw [hb] at c1
    obtain ⟨kind, op, not, val, qual, name, kids, sub⟩ := e
    rw [Expr.row_mk] at c1 ⊢
    refine cl_of_d follows_mixed false Tryz.func37 rfl (by kernel_rfl) ?_
    simp only [Tryz.f37, tt, seval]
    refine call0 (c1) ?_ ?_ ?_
    · decide
    · simp only [tt, seval]
    rintro r rfl
    simp only [tt, seval]
    refine ⟨_, [], rfl, endOk ?_⟩
    simp only [tt, seval, Bool.false_eq_true, if_false, List.length_nil, List.flatMap_nil]
  case true =>
    rw [hb] at c1
    obtain ⟨hf, h1, h2, h3⟩ := ht hb
    have he : PrC 31 [.ag (csOf e.row)] false (l) := he hf hr hsz
    obtain ⟨kind, op, not, val, qual, name, kids, sub⟩ := e
    rw [Expr.row_mk] at c1 he ⊢
    refine cl_of_d follows_mixed false Tryz.func37 rfl (by kernel_rfl) ?_
    simp only [Tryz.f37, tt, seval]
    refine call0 (c1) ?_ ?_ ?_
    · decide
    · simp only [tt, seval]
    rintro r rfl
    simp only [tt, seval]
    refine CallQ.intro (he [] (by simp only [List.length_nil]; omega)) ?_ ?_ ?_
    · decide
    · simp only [tt, seval, List.flatMap_nil, List.length_nil]
    rintro r os ⟨rfl, rfl⟩ hos
    simp only [tt, seval, List.flatMap_nil, List.length_nil]
    refine ⟨_, [], rfl, endOk ?_⟩
    simp only [tt, seval, if_true]
theorem ExprText_d (e : Expr) (hr : Rg e) (hsz : szExpr e ≤ 1048576) : Cl Tryz.prog 12 [.ag (csOf e.row)] [] fun r _ => r = vs (spacedB (exToks e)) := by
  have c1 := ExprTokens_d e hr hsz
  have sp := Spaced_d (exToks e) (exToks_small e hr).1 (exToks_small e hr).2
  generalize exToks e = l at *
  obtain ⟨kind, op, not, val, qual, name, kids, sub⟩ := e
  rw [Expr.row_mk] at c1 ⊢
  refine cl_of_d follows_mixed false Tryz.func12 rfl (by kernel_rfl) ?_
  simp only [Tryz.f12, tt, seval]
  refine call0 (c1) ?_ ?_ ?_
  · decide
  · simp only [tt, seval]
  rintro r rfl
  simp only [tt, seval]
  refine call0 (sp) ?_ ?_ ?_
  · decide
  · simp only [tt, seval]
  rintro r rfl
  simp only [tt, seval]
  exact ⟨_, _, rfl, end0 rfl⟩
theorem iExprText_d (e : Expr) (hr : Rg e) (hsz : szExpr e ≤ 1048576) : Cl Tryz.prog 13 [.ag (csOf e.row)] [] fun r _ => r = vs (spacedB (exToks e)) := by
  have c1 := iExprTokens_d e hr hsz
  have sp := iSpaced_d (exToks e) (exToks_small e hr).1 (exToks_small e hr).2
  generalize exToks e = l at *
  obtain ⟨kind, op, not, val, qual, name, kids, sub⟩ := e
  rw [Expr.row_mk] at c1 ⊢
  refine cl_of_d follows_mixed false Tryz.func13 rfl (by kernel_rfl) ?_
  simp only [Tryz.f13, tt, seval]
  refine call0 (c1) ?_ ?_ ?_
  · decide
  · simp only [tt, seval]
  rintro r rfl
  simp only [tt, seval]
  refine call0 (sp) ?_ ?_ ?_
  · decide
  · simp only [tt, seval]
  rintro r rfl
  simp only [tt, seval]
  exact ⟨_, _, rfl, end0 rfl⟩

end Go.Proofs.YtfdcibofiibppaaGreatDoor

set_option maxRecDepth 8000
namespace Go.Proofs.YtfdcibofiibppaaGreatDoor
open Go Go.Dv
open Go.Vc (D shrI xorI andI and255)

theorem lawExpr_d (e : Expr) (hr : Rg e) : Cl Tryz.prog 4 [.ag (csOf e.row)] [] fun r _ => r = vb true := by
  have z1 := szExpr_d e 1048576 (by omega) (by omega)
  have z2 := toExpr_d e
  have z3 := ExprText_d e hr
  have z4 := iExprText_d e hr
  have z5 := eqExpr_d e
  generalize spacedB (exToks e) = tx at *
  generalize szExpr e = sz at *
  obtain ⟨kind, op, not, val, qual, name, kids, sub⟩ := e
  rw [Expr.row_mk] at z1 z2 z3 z4 z5 ⊢
  refine cl_of_d follows_mixed false Tryz.func4 rfl (by kernel_rfl) ?_
  simp only [Tryz.f4, tt, seval]
  refine call0 (z1) ?_ ?_ ?_
  · decide
  · simp only [tt, seval]
  rintro r rfl
  simp only [tt, seval]
  refine And.intro (fun hneg => ?_) (fun hpos => ?_)
  · exact ⟨_, _, rfl, end0 rfl⟩
  · have hsz : sz ≤ 1048576 := by
      unfold subL at hpos
      split at hpos
      · omega
      · exact absurd (by decide) hpos
    try simp only [tt, seval]
    refine call0 (z2 hsz) ?_ ?_ ?_
    · decide
    · simp only [tt, seval]
    rintro r rfl
    simp only [tt, seval]
    refine call0 (z3 hsz) ?_ ?_ ?_
    · decide
    · simp only [tt, seval]
    rintro r rfl
    simp only [tt, seval]
    refine call0 (z2 hsz) ?_ ?_ ?_
    · decide
    · simp only [tt, seval]
    rintro r rfl
    simp only [tt, seval]
    refine call0 (z4 hsz) ?_ ?_ ?_
    · decide
    · simp only [tt, seval]
    rintro r rfl
    simp only [tt, seval]
    try simp only [tt, seval]
    refine dDrawn.intro [] (pln [0, 2, 5, 7, 8]) (by kernel_rfl) ?_
    simp only [tt, seval]
    refine call0 (z2 hsz) ?_ ?_ ?_
    · decide
    · simp only [tt, seval]
    rintro r rfl
    simp only [tt, seval]
    refine call0 (z5) ?_ ?_ ?_
    · decide
    · simp only [tt, seval]
    rintro r rfl
    simp only [tt, seval]
    exact ⟨_, _, rfl, end0 rfl⟩

end Go.Proofs.YtfdcibofiibppaaGreatDoor

set_option maxRecDepth 8000
namespace Go.Proofs.YtfdcibofiibppaaGreatDoor
open Go Go.Dv
open Go.Vc (D shrI xorI andI and255)

open Go.Vc (D CellF ValsF read_slice list_cons list_one)
section
variable {W : World}
theorem vf_nil : ValsF W [] [] [] := rfl
theorem vf_lit {v : Value} {ds : List D} {vs : List Value} {F : List Nat} (h : ∃ G, CellF W (.lit v) v G ∧ G = []) (k : ValsF W ds vs F) : ValsF W (.lit v :: ds) (v :: vs) F := by
  obtain ⟨G, h, rfl⟩ := h
  exact ⟨[], F, h, k, rfl⟩
theorem vf_sl {n : Nat} {d : List D} {v : Value} {G : List Nat} {ds : List D} {vs : List Value} {F : List Nat} (h : CellF W (.sl n d) v G) (k : ValsF W ds vs F) : ValsF W (.sl n d :: ds) (v :: vs) (G ++ F) := ⟨G, F, h, k, rfl⟩
theorem vf_app : ∀ {a : List D} {u : List Value} {b : List D} {v : List Value} {F G : List Nat}, ValsF W a u F → ValsF W b v G → ValsF W (a ++ b) (u ++ v) (F ++ G)
  | [], [], b, v, F, G, h, k => by cases (show F = [] from h); exact k
  | d :: a, x :: u, b, v, F, G, ⟨F1, F2, h1, h2, h3⟩, k => by subst h3; exact ⟨F1, F2 ++ G, h1, vf_app h2 k, by rw [List.append_assoc]⟩
  | [], _ :: _, _, _, _, _, h, _ => h.elim
  | _ :: _, [], _, _, _, _, h, _ => h.elim
theorem cell_sub {α : Type} {R : α → Prop} {row : α → List D} {ys : List {x : α // R x}} {v : Value} {F : List Nat} (h : CellF W (.sl ys.length (ys.flatMap fun y => row y.1)) v F) : CellF W (.sl (ys.map Subtype.val).length ((ys.map Subtype.val).flatMap row)) v F := by
  rw [List.length_map, List.flatMap_map]; exact h
theorem sub_mem {α : Type} {R : α → Prop} {ys : List {x : α // R x}} : ∀ x ∈ ys.map Subtype.val, R x := fun x hx => by
  obtain ⟨y, _, rfl⟩ := List.mem_map.1 hx
  exact y.2
theorem wf64 {n : Int} (h : (Lit.int .i64 n).wf = true) : -9223372036854775808 ≤ n ∧ n ≤ 9223372036854775807 := by
  simp [Lit.wf, IntKind.min, IntKind.max, IntKind.bits, IntKind.signed] at h
  omega
end
section
variable {H : Type} {enc : TypeId × Value → H} {W : World} {base : Nat} {sp : Nat → Bool} {held : Bool}
theorem cells24 : Tryz.prog.cellsOf 24 = 1 := by kernel_rfl
theorem cells38 : Tryz.prog.cellsOf 38 = 1 := by kernel_rfl
theorem cells25 : Tryz.prog.cellsOf 25 = 1 := by kernel_rfl
theorem cells40 : Tryz.prog.cellsOf 40 = 1 := by kernel_rfl
theorem cells39 : Tryz.prog.cellsOf 39 = 1 := by kernel_rfl
theorem cells4 : Tryz.prog.cellsOf 4 = 1 := by kernel_rfl
theorem cells3 : Tryz.prog.cellsOf 3 = 1 := by kernel_rfl
theorem cells27 : Tryz.prog.cellsOf 27 = 10 := by kernel_rfl
theorem cells164 : Tryz.prog.cellsOf 164 = 13 := by kernel_rfl
theorem cells42 : Tryz.prog.cellsOf 42 = 6 := by kernel_rfl
theorem cells170 : Tryz.prog.cellsOf 170 = 11 := by kernel_rfl
theorem cells167 : Tryz.prog.cellsOf 167 = 3 := by kernel_rfl
theorem cells23 : Tryz.prog.cellsOf 23 = 3 := by kernel_rfl
theorem cells9 : Tryz.prog.cellsOf 9 = 1 := by kernel_rfl
def RExpr (e : Expr) : Prop := Rg e
def RItem (x : Item) : Prop := Rg x.e
def RSource (x : Source) : Prop := ∀ e ∈ x.on, Rg e
def RSortKey (x : SortKey) : Prop := Rg x.e
def RQuery (q : Query) : Prop := RgQ q
theorem read_val {n : Nat} {cs : List Value} {x : DataW H × List MemPlace} (h : DataW.trod enc Tryz.prog W base sp held n 23 cs = some x) : ∃ (y : Val), cs = [.int .i64 y.kind, .int .i64 y.num, .string y.text] ∧ y.text.size ≤ maxLen ∧ -9223372036854775808 ≤ y.num ∧ y.num ≤ 9223372036854775807 := by
  obtain ⟨xs, k, hk, _, hl, hlen, hf⟩ := DataW.trod_struct Tryz.underlying23 h
  rw [cells23] at hl
  obtain ⟨c0, r0, rfl, hl1⟩ := list_cons hl
  obtain ⟨c1, r1, rfl, hl2⟩ := list_cons hl1
  obtain ⟨c2, rfl⟩ := list_one hl2
  obtain ⟨x0, s0, rfl, hlen1⟩ := list_cons hlen
  obtain ⟨x1, s1, rfl, hlen2⟩ := list_cons hlen1
  obtain ⟨x2, rfl⟩ := list_one hlen2
  have h0 : DataW.trod enc Tryz.prog W base sp held k 3 (([c0, c1, c2].drop 0).take (Tryz.prog.cellsOf 3)) = some x0 := hf 0 _ rfl
  rw [cells3] at h0
  have h0 : DataW.trod enc Tryz.prog W base sp held k 3 [c0] = some x0 := h0
  have h1 : DataW.trod enc Tryz.prog W base sp held k 3 (([c0, c1, c2].drop 1).take (Tryz.prog.cellsOf 3)) = some x1 := hf 1 _ rfl
  rw [cells3] at h1
  have h1 : DataW.trod enc Tryz.prog W base sp held k 3 [c1] = some x1 := h1
  have h2 : DataW.trod enc Tryz.prog W base sp held k 9 (([c0, c1, c2].drop 2).take (Tryz.prog.cellsOf 9)) = some x2 := hf 2 _ rfl
  rw [cells9] at h2
  have h2 : DataW.trod enc Tryz.prog W base sp held k 9 [c2] = some x2 := h2
  obtain ⟨n0, e0, _, w0⟩ := DataW.trod_int Tryz.underlying3 h0
  obtain ⟨n1, e1, _, w1⟩ := DataW.trod_int Tryz.underlying3 h1
  obtain ⟨n2, e2, _, b2⟩ := DataW.trod_string Tryz.underlying9 h2
  simp only [List.cons.injEq, and_true] at e0 e1 e2
  subst e0 e1 e2
  exact ⟨⟨n0, n1, n2⟩, rfl, b2, wf64 w1⟩
theorem read_trees (n : Nat) : (∀ cs x, DataW.trod enc Tryz.prog W base sp held n 27 cs = some x → ∃ (e : {x : Expr // RExpr x}) (F : List Nat), ValsF W e.1.row cs F) ∧ (∀ cs x, DataW.trod enc Tryz.prog W base sp held n 164 cs = some x → ∃ (e : {x : Item // RItem x}) (F : List Nat), ValsF W e.1.row cs F) ∧ (∀ cs x, DataW.trod enc Tryz.prog W base sp held n 167 cs = some x → ∃ (e : {x : Source // RSource x}) (F : List Nat), ValsF W e.1.row cs F) ∧ (∀ cs x, DataW.trod enc Tryz.prog W base sp held n 170 cs = some x → ∃ (e : {x : SortKey // RSortKey x}) (F : List Nat), ValsF W e.1.row cs F) ∧ (∀ cs x, DataW.trod enc Tryz.prog W base sp held n 42 cs = some x → ∃ (e : {x : Query // RQuery x}) (F : List Nat), ValsF W e.1.row cs F) := by
  induction n using Nat.strongRecOn with
  | _ n ih =>
  refine ⟨fun cs x h => ?_, fun cs x h => ?_, fun cs x h => ?_, fun cs x h => ?_, fun cs x h => ?_⟩
  · skip
    obtain ⟨xs, k, hk, _, hl, hlen, hf⟩ := DataW.trod_struct Tryz.underlying27 h
    rw [cells27] at hl
    obtain ⟨c0, r0, rfl, hl1⟩ := list_cons hl
    obtain ⟨c1, r1, rfl, hl2⟩ := list_cons hl1
    obtain ⟨c2, r2, rfl, hl3⟩ := list_cons hl2
    obtain ⟨c3, r3, rfl, hl4⟩ := list_cons hl3
    obtain ⟨c4, r4, rfl, hl5⟩ := list_cons hl4
    obtain ⟨c5, r5, rfl, hl6⟩ := list_cons hl5
    obtain ⟨c6, r6, rfl, hl7⟩ := list_cons hl6
    obtain ⟨c7, r7, rfl, hl8⟩ := list_cons hl7
    obtain ⟨c8, r8, rfl, hl9⟩ := list_cons hl8
    obtain ⟨c9, rfl⟩ := list_one hl9
    obtain ⟨x0, s0, rfl, hlen1⟩ := list_cons hlen
    obtain ⟨x1, s1, rfl, hlen2⟩ := list_cons hlen1
    obtain ⟨x2, s2, rfl, hlen3⟩ := list_cons hlen2
    obtain ⟨x3, s3, rfl, hlen4⟩ := list_cons hlen3
    obtain ⟨x4, s4, rfl, hlen5⟩ := list_cons hlen4
    obtain ⟨x5, s5, rfl, hlen6⟩ := list_cons hlen5
    obtain ⟨x6, s6, rfl, hlen7⟩ := list_cons hlen6
    obtain ⟨x7, rfl⟩ := list_one hlen7
    have h0 : DataW.trod enc Tryz.prog W base sp held k 3 (([c0, c1, c2, c3, c4, c5, c6, c7, c8, c9].drop 0).take (Tryz.prog.cellsOf 3)) = some x0 := hf 0 _ rfl
    rw [cells3] at h0
    have h0 : DataW.trod enc Tryz.prog W base sp held k 3 [c0] = some x0 := h0
    have h1 : DataW.trod enc Tryz.prog W base sp held k 3 (([c0, c1, c2, c3, c4, c5, c6, c7, c8, c9].drop 1).take (Tryz.prog.cellsOf 3)) = some x1 := hf 1 _ rfl
    rw [cells3] at h1
    have h1 : DataW.trod enc Tryz.prog W base sp held k 3 [c1] = some x1 := h1
    have h2 : DataW.trod enc Tryz.prog W base sp held k 4 (([c0, c1, c2, c3, c4, c5, c6, c7, c8, c9].drop 2).take (Tryz.prog.cellsOf 4)) = some x2 := hf 2 _ rfl
    rw [cells4] at h2
    have h2 : DataW.trod enc Tryz.prog W base sp held k 4 [c2] = some x2 := h2
    have h3 : DataW.trod enc Tryz.prog W base sp held k 23 (([c0, c1, c2, c3, c4, c5, c6, c7, c8, c9].drop 3).take (Tryz.prog.cellsOf 23)) = some x3 := hf 3 _ rfl
    rw [cells23] at h3
    have h3 : DataW.trod enc Tryz.prog W base sp held k 23 [c3, c4, c5] = some x3 := h3
    have h4 : DataW.trod enc Tryz.prog W base sp held k 9 (([c0, c1, c2, c3, c4, c5, c6, c7, c8, c9].drop 6).take (Tryz.prog.cellsOf 9)) = some x4 := hf 4 _ rfl
    rw [cells9] at h4
    have h4 : DataW.trod enc Tryz.prog W base sp held k 9 [c6] = some x4 := h4
    have h5 : DataW.trod enc Tryz.prog W base sp held k 9 (([c0, c1, c2, c3, c4, c5, c6, c7, c8, c9].drop 7).take (Tryz.prog.cellsOf 9)) = some x5 := hf 5 _ rfl
    rw [cells9] at h5
    have h5 : DataW.trod enc Tryz.prog W base sp held k 9 [c7] = some x5 := h5
    have h6 : DataW.trod enc Tryz.prog W base sp held k 24 (([c0, c1, c2, c3, c4, c5, c6, c7, c8, c9].drop 8).take (Tryz.prog.cellsOf 24)) = some x6 := hf 6 _ rfl
    rw [cells24] at h6
    have h6 : DataW.trod enc Tryz.prog W base sp held k 24 [c8] = some x6 := h6
    have h7 : DataW.trod enc Tryz.prog W base sp held k 25 (([c0, c1, c2, c3, c4, c5, c6, c7, c8, c9].drop 9).take (Tryz.prog.cellsOf 25)) = some x7 := hf 7 _ rfl
    rw [cells25] at h7
    have h7 : DataW.trod enc Tryz.prog W base sp held k 25 [c9] = some x7 := h7
    obtain ⟨n0, e0, _, w0⟩ := DataW.trod_int Tryz.underlying3 h0
    obtain ⟨n1, e1, _, w1⟩ := DataW.trod_int Tryz.underlying3 h1
    obtain ⟨n2, e2, _⟩ := DataW.trod_bool Tryz.underlying4 h2
    obtain ⟨n3, e3, b3, w3⟩ := read_val h3
    obtain ⟨n4, e4, _, b4⟩ := DataW.trod_string Tryz.underlying9 h4
    obtain ⟨n5, e5, _, b5⟩ := DataW.trod_string Tryz.underlying9 h5
    obtain ⟨n6, v6, F6, e6, q6⟩ := read_slice (row := fun y : {x : Expr // RExpr x} => y.1.row) Tryz.underlying24 cells27 (by decide) (fun y => Expr.row_len y.1) (fun n' cs' x' hn h' => (ih n' (by omega)).1 _ _ h') h6
    obtain ⟨n7, v7, F7, e7, q7⟩ := read_slice (row := fun y : {x : Query // RQuery x} => y.1.row) Tryz.underlying25 cells42 (by decide) (fun y => Query.row_len y.1) (fun n' cs' x' hn h' => (ih n' (by omega)).2.2.2.2 _ _ h') h7
    simp only [List.cons.injEq, and_true] at e0 e1 e2 e3 e4 e5 e6 e7
    obtain ⟨e3, e3', e3''⟩ := e3
    subst e0 e1 e2 e3 e3' e3'' e4 e5 e6 e7
    refine ⟨⟨Expr.mk n0 n1 n2 n3 n4 n5 (n6.map Subtype.val) (n7.map Subtype.val), Rg.mk ⟨w3.1, w3.2⟩ sub_mem (fun q hq => (sub_mem q hq).1) (fun q hq => (sub_mem q hq).2)⟩, (F6 ++ (F7 ++ [])), ?_⟩
    rw [Expr.row_mk]
    exact (vf_lit ⟨_, ⟨rfl, rfl, trivial⟩, rfl⟩ (vf_lit ⟨_, ⟨rfl, rfl, trivial⟩, rfl⟩ (vf_lit ⟨_, ⟨rfl, rfl, trivial⟩, rfl⟩ (vf_lit ⟨_, ⟨rfl, rfl, trivial⟩, rfl⟩ (vf_lit ⟨_, ⟨rfl, rfl, trivial⟩, rfl⟩ (vf_lit ⟨_, ⟨rfl, rfl, b3⟩, rfl⟩ (vf_lit ⟨_, ⟨rfl, rfl, b4⟩, rfl⟩ (vf_lit ⟨_, ⟨rfl, rfl, b5⟩, rfl⟩ (vf_sl (cell_sub q6) (vf_sl (cell_sub q7) vf_nil))))))))))
  · skip
    obtain ⟨xs, k, hk, _, hl, hlen, hf⟩ := DataW.trod_struct Tryz.underlying164 h
    rw [cells164] at hl
    obtain ⟨c0, r0, rfl, hl1⟩ := list_cons hl
    obtain ⟨c1, r1, rfl, hl2⟩ := list_cons hl1
    obtain ⟨c2, r2, rfl, hl3⟩ := list_cons hl2
    obtain ⟨c3, r3, rfl, hl4⟩ := list_cons hl3
    obtain ⟨c4, r4, rfl, hl5⟩ := list_cons hl4
    obtain ⟨c5, r5, rfl, hl6⟩ := list_cons hl5
    obtain ⟨c6, r6, rfl, hl7⟩ := list_cons hl6
    obtain ⟨c7, r7, rfl, hl8⟩ := list_cons hl7
    obtain ⟨c8, r8, rfl, hl9⟩ := list_cons hl8
    obtain ⟨c9, r9, rfl, hl10⟩ := list_cons hl9
    obtain ⟨c10, r10, rfl, hl11⟩ := list_cons hl10
    obtain ⟨c11, r11, rfl, hl12⟩ := list_cons hl11
    obtain ⟨c12, rfl⟩ := list_one hl12
    obtain ⟨x0, s0, rfl, hlen1⟩ := list_cons hlen
    obtain ⟨x1, s1, rfl, hlen2⟩ := list_cons hlen1
    obtain ⟨x2, s2, rfl, hlen3⟩ := list_cons hlen2
    obtain ⟨x3, rfl⟩ := list_one hlen3
    have h0 : DataW.trod enc Tryz.prog W base sp held k 4 (([c0, c1, c2, c3, c4, c5, c6, c7, c8, c9, c10, c11, c12].drop 0).take (Tryz.prog.cellsOf 4)) = some x0 := hf 0 _ rfl
    rw [cells4] at h0
    have h0 : DataW.trod enc Tryz.prog W base sp held k 4 [c0] = some x0 := h0
    have h1 : DataW.trod enc Tryz.prog W base sp held k 9 (([c0, c1, c2, c3, c4, c5, c6, c7, c8, c9, c10, c11, c12].drop 1).take (Tryz.prog.cellsOf 9)) = some x1 := hf 1 _ rfl
    rw [cells9] at h1
    have h1 : DataW.trod enc Tryz.prog W base sp held k 9 [c1] = some x1 := h1
    have h2 : DataW.trod enc Tryz.prog W base sp held k 27 (([c0, c1, c2, c3, c4, c5, c6, c7, c8, c9, c10, c11, c12].drop 2).take (Tryz.prog.cellsOf 27)) = some x2 := hf 2 _ rfl
    rw [cells27] at h2
    have h2 : DataW.trod enc Tryz.prog W base sp held k 27 [c2, c3, c4, c5, c6, c7, c8, c9, c10, c11] = some x2 := h2
    have h3 : DataW.trod enc Tryz.prog W base sp held k 9 (([c0, c1, c2, c3, c4, c5, c6, c7, c8, c9, c10, c11, c12].drop 12).take (Tryz.prog.cellsOf 9)) = some x3 := hf 3 _ rfl
    rw [cells9] at h3
    have h3 : DataW.trod enc Tryz.prog W base sp held k 9 [c12] = some x3 := h3
    obtain ⟨n0, e0, _⟩ := DataW.trod_bool Tryz.underlying4 h0
    obtain ⟨n1, e1, _, b1⟩ := DataW.trod_string Tryz.underlying9 h1
    obtain ⟨n2, F2, e2⟩ := (ih k (by omega)).1 _ _ h2
    obtain ⟨n3, e3, _, b3⟩ := DataW.trod_string Tryz.underlying9 h3
    simp only [List.cons.injEq, and_true] at e0 e1 e3
    subst e0 e1 e3
    refine ⟨⟨Item.mk n0 n1 n2.1 n3, n2.2⟩, (F2 ++ []), ?_⟩
    rw [Item.row_mk]
    exact (vf_lit ⟨_, ⟨rfl, rfl, trivial⟩, rfl⟩ (vf_lit ⟨_, ⟨rfl, rfl, b1⟩, rfl⟩ (vf_app e2 (vf_lit ⟨_, ⟨rfl, rfl, b3⟩, rfl⟩ vf_nil))))
  · skip
    obtain ⟨xs, k, hk, _, hl, hlen, hf⟩ := DataW.trod_struct Tryz.underlying167 h
    rw [cells167] at hl
    obtain ⟨c0, r0, rfl, hl1⟩ := list_cons hl
    obtain ⟨c1, r1, rfl, hl2⟩ := list_cons hl1
    obtain ⟨c2, rfl⟩ := list_one hl2
    obtain ⟨x0, s0, rfl, hlen1⟩ := list_cons hlen
    obtain ⟨x1, s1, rfl, hlen2⟩ := list_cons hlen1
    obtain ⟨x2, rfl⟩ := list_one hlen2
    have h0 : DataW.trod enc Tryz.prog W base sp held k 9 (([c0, c1, c2].drop 0).take (Tryz.prog.cellsOf 9)) = some x0 := hf 0 _ rfl
    rw [cells9] at h0
    have h0 : DataW.trod enc Tryz.prog W base sp held k 9 [c0] = some x0 := h0
    have h1 : DataW.trod enc Tryz.prog W base sp held k 9 (([c0, c1, c2].drop 1).take (Tryz.prog.cellsOf 9)) = some x1 := hf 1 _ rfl
    rw [cells9] at h1
    have h1 : DataW.trod enc Tryz.prog W base sp held k 9 [c1] = some x1 := h1
    have h2 : DataW.trod enc Tryz.prog W base sp held k 24 (([c0, c1, c2].drop 2).take (Tryz.prog.cellsOf 24)) = some x2 := hf 2 _ rfl
    rw [cells24] at h2
    have h2 : DataW.trod enc Tryz.prog W base sp held k 24 [c2] = some x2 := h2
    obtain ⟨n0, e0, _, b0⟩ := DataW.trod_string Tryz.underlying9 h0
    obtain ⟨n1, e1, _, b1⟩ := DataW.trod_string Tryz.underlying9 h1
    obtain ⟨n2, v2, F2, e2, q2⟩ := read_slice (row := fun y : {x : Expr // RExpr x} => y.1.row) Tryz.underlying24 cells27 (by decide) (fun y => Expr.row_len y.1) (fun n' cs' x' hn h' => (ih n' (by omega)).1 _ _ h') h2
    simp only [List.cons.injEq, and_true] at e0 e1 e2
    subst e0 e1 e2
    refine ⟨⟨Source.mk n0 n1 (n2.map Subtype.val), fun e he => sub_mem (R := RExpr) e he⟩, (F2 ++ []), ?_⟩
    rw [Source.row_mk]
    exact (vf_lit ⟨_, ⟨rfl, rfl, b0⟩, rfl⟩ (vf_lit ⟨_, ⟨rfl, rfl, b1⟩, rfl⟩ (vf_sl (cell_sub q2) vf_nil)))
  · skip
    obtain ⟨xs, k, hk, _, hl, hlen, hf⟩ := DataW.trod_struct Tryz.underlying170 h
    rw [cells170] at hl
    obtain ⟨c0, r0, rfl, hl1⟩ := list_cons hl
    obtain ⟨c1, r1, rfl, hl2⟩ := list_cons hl1
    obtain ⟨c2, r2, rfl, hl3⟩ := list_cons hl2
    obtain ⟨c3, r3, rfl, hl4⟩ := list_cons hl3
    obtain ⟨c4, r4, rfl, hl5⟩ := list_cons hl4
    obtain ⟨c5, r5, rfl, hl6⟩ := list_cons hl5
    obtain ⟨c6, r6, rfl, hl7⟩ := list_cons hl6
    obtain ⟨c7, r7, rfl, hl8⟩ := list_cons hl7
    obtain ⟨c8, r8, rfl, hl9⟩ := list_cons hl8
    obtain ⟨c9, r9, rfl, hl10⟩ := list_cons hl9
    obtain ⟨c10, rfl⟩ := list_one hl10
    obtain ⟨x0, s0, rfl, hlen1⟩ := list_cons hlen
    obtain ⟨x1, rfl⟩ := list_one hlen1
    have h0 : DataW.trod enc Tryz.prog W base sp held k 27 (([c0, c1, c2, c3, c4, c5, c6, c7, c8, c9, c10].drop 0).take (Tryz.prog.cellsOf 27)) = some x0 := hf 0 _ rfl
    rw [cells27] at h0
    have h0 : DataW.trod enc Tryz.prog W base sp held k 27 [c0, c1, c2, c3, c4, c5, c6, c7, c8, c9] = some x0 := h0
    have h1 : DataW.trod enc Tryz.prog W base sp held k 4 (([c0, c1, c2, c3, c4, c5, c6, c7, c8, c9, c10].drop 10).take (Tryz.prog.cellsOf 4)) = some x1 := hf 1 _ rfl
    rw [cells4] at h1
    have h1 : DataW.trod enc Tryz.prog W base sp held k 4 [c10] = some x1 := h1
    obtain ⟨n0, F0, e0⟩ := (ih k (by omega)).1 _ _ h0
    obtain ⟨n1, e1, _⟩ := DataW.trod_bool Tryz.underlying4 h1
    simp only [List.cons.injEq, and_true] at e1
    subst e1
    refine ⟨⟨SortKey.mk n0.1 n1, n0.2⟩, (F0 ++ []), ?_⟩
    rw [SortKey.row_mk]
    exact (vf_app e0 (vf_lit ⟨_, ⟨rfl, rfl, trivial⟩, rfl⟩ vf_nil))
  · skip
    obtain ⟨xs, k, hk, _, hl, hlen, hf⟩ := DataW.trod_struct Tryz.underlying42 h
    rw [cells42] at hl
    obtain ⟨c0, r0, rfl, hl1⟩ := list_cons hl
    obtain ⟨c1, r1, rfl, hl2⟩ := list_cons hl1
    obtain ⟨c2, r2, rfl, hl3⟩ := list_cons hl2
    obtain ⟨c3, r3, rfl, hl4⟩ := list_cons hl3
    obtain ⟨c4, r4, rfl, hl5⟩ := list_cons hl4
    obtain ⟨c5, rfl⟩ := list_one hl5
    obtain ⟨x0, s0, rfl, hlen1⟩ := list_cons hlen
    obtain ⟨x1, s1, rfl, hlen2⟩ := list_cons hlen1
    obtain ⟨x2, s2, rfl, hlen3⟩ := list_cons hlen2
    obtain ⟨x3, s3, rfl, hlen4⟩ := list_cons hlen3
    obtain ⟨x4, s4, rfl, hlen5⟩ := list_cons hlen4
    obtain ⟨x5, rfl⟩ := list_one hlen5
    have h0 : DataW.trod enc Tryz.prog W base sp held k 4 (([c0, c1, c2, c3, c4, c5].drop 0).take (Tryz.prog.cellsOf 4)) = some x0 := hf 0 _ rfl
    rw [cells4] at h0
    have h0 : DataW.trod enc Tryz.prog W base sp held k 4 [c0] = some x0 := h0
    have h1 : DataW.trod enc Tryz.prog W base sp held k 38 (([c0, c1, c2, c3, c4, c5].drop 1).take (Tryz.prog.cellsOf 38)) = some x1 := hf 1 _ rfl
    rw [cells38] at h1
    have h1 : DataW.trod enc Tryz.prog W base sp held k 38 [c1] = some x1 := h1
    have h2 : DataW.trod enc Tryz.prog W base sp held k 39 (([c0, c1, c2, c3, c4, c5].drop 2).take (Tryz.prog.cellsOf 39)) = some x2 := hf 2 _ rfl
    rw [cells39] at h2
    have h2 : DataW.trod enc Tryz.prog W base sp held k 39 [c2] = some x2 := h2
    have h3 : DataW.trod enc Tryz.prog W base sp held k 24 (([c0, c1, c2, c3, c4, c5].drop 3).take (Tryz.prog.cellsOf 24)) = some x3 := hf 3 _ rfl
    rw [cells24] at h3
    have h3 : DataW.trod enc Tryz.prog W base sp held k 24 [c3] = some x3 := h3
    have h4 : DataW.trod enc Tryz.prog W base sp held k 40 (([c0, c1, c2, c3, c4, c5].drop 4).take (Tryz.prog.cellsOf 40)) = some x4 := hf 4 _ rfl
    rw [cells40] at h4
    have h4 : DataW.trod enc Tryz.prog W base sp held k 40 [c4] = some x4 := h4
    have h5 : DataW.trod enc Tryz.prog W base sp held k 3 (([c0, c1, c2, c3, c4, c5].drop 5).take (Tryz.prog.cellsOf 3)) = some x5 := hf 5 _ rfl
    rw [cells3] at h5
    have h5 : DataW.trod enc Tryz.prog W base sp held k 3 [c5] = some x5 := h5
    obtain ⟨n0, e0, _⟩ := DataW.trod_bool Tryz.underlying4 h0
    obtain ⟨n1, v1, F1, e1, q1⟩ := read_slice (row := fun y : {x : Item // RItem x} => y.1.row) Tryz.underlying38 cells164 (by decide) (fun y => Item.row_len y.1) (fun n' cs' x' hn h' => (ih n' (by omega)).2.1 _ _ h') h1
    obtain ⟨n2, v2, F2, e2, q2⟩ := read_slice (row := fun y : {x : Source // RSource x} => y.1.row) Tryz.underlying39 cells167 (by decide) (fun y => Source.row_len y.1) (fun n' cs' x' hn h' => (ih n' (by omega)).2.2.1 _ _ h') h2
    obtain ⟨n3, v3, F3, e3, q3⟩ := read_slice (row := fun y : {x : Expr // RExpr x} => y.1.row) Tryz.underlying24 cells27 (by decide) (fun y => Expr.row_len y.1) (fun n' cs' x' hn h' => (ih n' (by omega)).1 _ _ h') h3
    obtain ⟨n4, v4, F4, e4, q4⟩ := read_slice (row := fun y : {x : SortKey // RSortKey x} => y.1.row) Tryz.underlying40 cells170 (by decide) (fun y => SortKey.row_len y.1) (fun n' cs' x' hn h' => (ih n' (by omega)).2.2.2.1 _ _ h') h4
    obtain ⟨n5, e5, _, w5⟩ := DataW.trod_int Tryz.underlying3 h5
    simp only [List.cons.injEq, and_true] at e0 e1 e2 e3 e4 e5
    subst e0 e1 e2 e3 e4 e5
    refine ⟨⟨Query.mk n0 (n1.map Subtype.val) (n2.map Subtype.val) (n3.map Subtype.val) (n4.map Subtype.val) n5, ⟨(wf64 w5).2, fun x hx => by
      simp only [exprsQ, List.mem_append] at hx
      rcases hx with ((hx | hx) | hx) | hx
      · simp only [exprsI, List.mem_map, List.mem_filter] at hx
        obtain ⟨y, ⟨hy, _⟩, rfl⟩ := hx
        obtain ⟨z, _, rfl⟩ := hy
        exact z.2
      · simp only [List.mem_flatMap] at hx
        obtain ⟨y, hy, hx⟩ := hx
        exact sub_mem y hy x hx
      · exact sub_mem x hx
      · simp only [List.mem_map] at hx
        obtain ⟨y, hy, rfl⟩ := hx
        obtain ⟨z, _, rfl⟩ := hy
        exact z.2⟩⟩, (F1 ++ (F2 ++ (F3 ++ (F4 ++ [])))), ?_⟩
    rw [Query.row_mk]
    exact (vf_lit ⟨_, ⟨rfl, rfl, trivial⟩, rfl⟩ (vf_sl (cell_sub q1) (vf_sl (cell_sub q2) (vf_sl (cell_sub q3) (vf_sl (cell_sub q4) (vf_lit ⟨_, ⟨rfl, rfl, trivial⟩, rfl⟩ vf_nil))))))
end

end Go.Proofs.YtfdcibofiibppaaGreatDoor

namespace Go.Dv
open Go Go.ChangeShapes Go.WideShapes
/-! ## The row's end -/
/-- The condition's variables, and the world's shape beside. -/
theorem returnsInHanded_both {H : Type} {enc : TypeId × Value → H} {a : Assume} {C : Checked} {os : Os} {f : FuncId} {fn : Func} {s : ChangeSpec} {conds : List PathCond} {apart fresh handsOn again : Bool} {X : World → Array Value → Prop}
    (hX : ∀ (w w' : World) (args : Array Value), w.heap = w'.heap → X w args → X w' args)
    (own : ownKnob C.prog.godebug = none) (started : os.Started) (noInit : C.prog.inits.idxOf? f = none) (hfn : C.prog.funcs[f]? = some fn)
    (witness : ∃ (w : World) (tape : Tape) (i : Input), w.os = os ∧ (w.forCall tape i).Shaped C.prog ∧ i.vars = [] ∧ Input.okWide C.prog (w.forCall tape i) .any w.heap.size f i ∧
      ((s.pre enc C.prog fn conds apart (w.forCall tape i).memory i.args ∧ X (w.forCall tape i).memory i.args) ∧ sizedMet enc C.prog fn (OpenSpec.ofChange s) apart (w.forCall tape i).memory i.args) ∧ a.holds C.prog (lone (Frame.enter C.prog f i.args .normal) [] (w.forCall tape i)))
    (contract : ∀ (W : World) (base : Nat) (args : Array Value) (ds gs : List (DataW H)) (before : List MemPlace),
      (∀ (j : Nat) t v, fn.params[j]? = some t → args[j]? = some v → Value.okWide C.prog W .any base t v) →
      DataW.Whole enc C.prog fn.params.toList s.vars apart W args.toList ds gs before →
      conds.all (PathCond.test C.prog ⟨fn.params.toList, ds, s.plain.varTypes C.prog, gs⟩) = true →
      X W args → W.ShapedOpen C.prog →
      Calls C.prog f args W fun e W' => ∃ v, e = .returned v ∧ s.post enc C.prog fn apart fresh handsOn again W args v W') :
    ReturnsInHanded a C os f .any (fun w args => (s.pre enc C.prog fn conds apart w args ∧ X w args) ∧ sizedMet enc C.prog fn (OpenSpec.ofChange s) apart w args) (s.post enc C.prog fn apart fresh handsOn again) := by
  refine returnsInHanded_of_calls own started noInit witness ?_
  intro w tape i _ hsh _ hok hpre hholds
  obtain ⟨_, _, _, fn', hfn', _, _, _, _, hval⟩ := hok
  have e : fn' = fn := Option.some.inj (hfn'.symm.trans hfn)
  subst e
  obtain ⟨⟨⟨ds, gs, before, hw, hc⟩, hx⟩, _⟩ := hpre
  have hw' := DataW.Whole.of_heap (w' := w.forCall tape i) (by rfl) hw
  refine (contract (w.forCall tape i) w.heap.size i.args ds gs before hval hw' hc (hX _ _ _ (by rfl) hx) hsh).mono fun e W' ⟨v, he, hp⟩ => ?_
  subst he
  exact ChangeSpec.post_blind hp
/-- What was there is as it was: the row's end. -/
theorem post_old {H : Type} {enc : TypeId × Value → H} {P : Program} {f : Func} {s : ChangeSpec} {apart fresh handsOn again : Bool} {W W' : World} {args : Array Value} {v : Value} {ds gs : List (DataW H)} {before pa pv : List MemPlace}
    (hW : DataW.Whole enc P f.params.toList s.vars apart W args.toList ds gs before)
    (hres : ∀ (b : Nat) (sp : Nat → Bool) (hd : Bool), DataW.TrodAll enc P W' b sp hd f.resultTypes.toList (v.resultList f.resultTypes.size) (s.fn H (ds ++ gs)).results [])
    (hargs : ∀ sp : Nat → Bool, (∀ p ∈ before, sp p.block = true) → DataW.TrodAll enc P W' 0 sp true f.params.toList args.toList (s.fn H (ds ++ gs)).args pa)
    (hvars : ∀ sp : Nat → Bool, (∀ p ∈ before, sp p.block = true) → DataW.TrodVars enc P W' sp s.vars (s.fn H (ds ++ gs)).vars pv)
    (hps : before = pa ++ pv) (hk : W.keptBut W' (· ∈ before)) (hfz : ∀ a : Addr, a.block < W.heap.size → W'.frozen? a = W.frozen? a)
    (hok : ∀ (j : Nat) (t : TypeId) (r : Value), f.resultTypes[j]? = some t → (v.resultList f.resultTypes.size)[j]? = some r → Value.okWide P W' .any 0 t r) :
    s.post enc P f apart fresh handsOn again W args v W' := by
  have hold : ∀ p ∈ before, (fun b => decide (b < W.heap.size)) p.block = true := fun p hp => by simpa using hW.lt p hp
  have hlt : ∀ p ∈ before, p.block < W.heap.size := fun p hp => hW.lt p hp
  refine ⟨ds, gs, before, [], pa, pv, hW, hres _ _ _, hargs _ hold, hvars _ hold, World.keptBut_mono (fun p hp => ⟨hp, ?_⟩) hk, fun _ => ?_⟩
  · rw [hps, List.mem_append] at hp
    exact Or.inr hp
  · obtain ⟨_, _, _, _, _, hz, hn⟩ := hW
    refine ⟨hok, _, _, ([] ++ pa) ++ pv, ⟨[] ++ pa, pv, trodAll_append (hargs _ (fun _ _ => rfl)) (hres _ _ _), hvars _ (fun _ _ => rfl), rfl, ?_, ?_⟩, ?_⟩
    · intro b off hp
      have hp' : MemPlace.cell b off ∈ before := by rw [hps]; simpa using hp
      rw [hfz ⟨b, off, none⟩ (hlt _ hp')]
      exact hz b off hp'
    · intro ha
      have := hn ha
      rw [hps] at this
      simpa using this
    · intro p hp _
      rw [hps]
      simpa using hp
/-- What the condition tells of the library's variables. -/
theorem glw_of {P : Program} {W : World} {t tp4 tp5 : TypeId} {zero : Array Value} {n1 n4 n5 : String} {a4 a5 : Value} (h1 : P.globalNamed n1 = some 1) (ht : Lib.TabIs P W n1 .u64 Lib.pow10Tab)
    (h : W.ShapedOpen P) (hg : 0 < P.globals.size) (hr : ((begin P (fun _ _ => 0) default).world.heap[0]?).bind Obj.row? = some (zero, t)) (hz : zero.size = 1)
    (hb : P.buildable t = true) (hc : P.cellTypes P.depth t = some [t]) (hu : P.underlying t = some (.int .i64))
    (g4 : P.globalNamed n4 = some 4) (v4 : W.var? P n4 = some #[.iface tp4 a4]) (g5 : P.globalNamed n5 = some 5) (v5 : W.var? P n5 = some #[.iface tp5 a5]) : GlW W (fun _ => False) := by
  intro x hx
  simp only [libVars, List.mem_cons, List.not_mem_nil, or_false] at hx
  rcases hx with rfl | rfl | rfl | rfl
  · refine ⟨id, ?_⟩
    unfold Lib.TabIs World.var? at ht
    rw [h1, Option.bind_some] at ht
    split at ht
    · rename_i cs ty lh hh
      exact ⟨cs, ty, lh, hh, Option.some.inj ht⟩
    · cases ht
  · refine ⟨id, ?_⟩
    obtain ⟨m, hm⟩ := Go.Proofs.cell_of_shapedOpen_int h hg hr hz hb hc hu
    unfold World.cell? at hm
    simp only at hm
    split at hm
    · rename_i cs ty lh hh
      exact ⟨cs, ty, lh, hh, m, hm⟩
    · cases hm
  · refine ⟨id, ?_⟩
    unfold World.var? at v4
    rw [g4, Option.bind_some] at v4
    split at v4
    · rename_i cs ty lh hh
      obtain rfl := Option.some.inj v4
      exact ⟨_, ty, lh, hh, _, rfl, .inr ⟨_, _, rfl⟩⟩
    · cases v4
  · refine ⟨id, ?_⟩
    unfold World.var? at v5
    rw [g5, Option.bind_some] at v5
    split at v5
    · rename_i cs ty lh hh
      obtain rfl := Option.some.inj v5
      exact ⟨_, ty, lh, hh, _, rfl, .inr ⟨_, _, rfl⟩⟩
    · cases v5
end Go.Dv
namespace Go.Proofs.YtfdcibofiibppaaGreatDoor
open Go Go.Dv Go.ChangeShapes Go.WideShapes Go.ChangeAt Go.RowKit
theorem own : ownKnob Tryz.prog.godebug = none := by kernel_rfl
theorem laidOut : laidOutB Tryz.prog = true := by kernel_rfl
theorem star : "*" ++ "errors.errorString" = "*errors.errorString" := by decide
theorem row251 (u : TypeId) (h : Tryz.prog.typeName? 3 u = some "*errors.errorString") : u = 251 :=
  typeName_ptr_named (nm := "errors.errorString") (by rw [star]; kernel_rfl) (by kernel_rfl) (by decide) u (by rw [star]; exact h)
theorem cells253 : Tryz.prog.cellsOf 253 = 1 := by kernel_rfl
theorem laid_glw {W : World} (hL : laidMetH Tryz.prog Rows.fnExactFullTextRow.laid W) (hs : W.ShapedOpen Tryz.prog) : GlW W (fun _ => False) := by
  rw [MakeChecks.laidMetH_plain _ _ _ (by kernel_rfl)] at hL
  have h2 : laidMet Tryz.prog ((((Rows.fnExactFullTextRow.laid.map (·.1)).getD 2 ""), Lib.tabData .u64 Lib.pow10Tab) :: Rows.fnExactFullTextRow.laid.drop 3) W := laidMet.tail (laidMet.tail hL)
  have h4 : laidMet Tryz.prog (Rows.fnExactFullTextRow.laid.drop 4) W := laidMet.tail (laidMet.tail h2)
  have h5 : laidMet Tryz.prog (Rows.fnExactFullTextRow.laid.drop 5) W := laidMet.tail h4
  obtain ⟨a5, s5, v5, _⟩ := laid_sentinel (g := 5) (ti := 157) (tp := 251) (te := 253) (ts := 9) h4 (by kernel_rfl) (by kernel_rfl) Tryz.underlying157 row251 Tryz.underlying251 Tryz.underlying253 rfl rfl Tryz.underlying9 cells253 cells9
  obtain ⟨a4, s4, v4, _⟩ := laid_sentinel (g := 4) (ti := 157) (tp := 251) (te := 253) (ts := 9) h5 (by kernel_rfl) (by kernel_rfl) Tryz.underlying157 row251 Tryz.underlying251 Tryz.underlying253 rfl rfl Tryz.underlying9 cells253 cells9
  exact glw_of (t := 3) (zero := #[.int .i64 0]) (by kernel_rfl) (Lib.tabIs_of_head (g := 1) (t := 233) (e := 219) (n := 20) (by kernel_rfl) (by kernel_rfl) Tryz.underlying233 Tryz.underlying219 (by kernel_rfl) (by kernel_rfl) h2) hs (of_decide_eq_true (by kernel_rfl)) (by kernel_rfl) rfl (by kernel_rfl) (by kernel_rfl) Tryz.underlying3 (by kernel_rfl) v4 (by kernel_rfl) v5

end Go.Proofs.YtfdcibofiibppaaGreatDoor

namespace Go.Proofs.YtfdcibofiibppaaGreatDoor
namespace fnExactExprText
open Go Go.Dv Go.ChangeShapes Go.WideShapes Go.ChangeAt Go.RowKit
set_option maxRecDepth 100000 in
theorem lifted (os : Os) (started : os.Started) (H : Type) (enc : TypeId × Value → H) :
    ReturnsInHanded {} Tryz.checked os 4 .any (fun w args => (Rows.fnExactExprTextSpec.pre enc Tryz.prog Tryz.f4 Rows.fnExactExprTextRow.domain false w args ∧ laidMetH Tryz.prog Rows.fnExactExprTextRow.laid w) ∧ sizedMet enc Tryz.prog Tryz.f4 (OpenSpec.ofChange Rows.fnExactExprTextSpec) false w args)
      (Rows.fnExactExprTextSpec.post enc Tryz.prog Tryz.f4 false true false false) := by
  refine returnsInHanded_both (C := Tryz.checked) (X := fun w _ => laidMetH Tryz.prog Rows.fnExactExprTextRow.laid w) (fun _ _ _ hh h => h.of_heap hh) own started (by kernel_rfl) Tryz.func4
    (ChangeSpec.witness_shaped (enc := enc) (C := Tryz.checked) (os := os) (X := fun w _ => laidMetH Tryz.prog Rows.fnExactExprTextRow.laid w) false (World.laidAll Tryz.prog os Rows.fnExactExprTextRow.laid) #[.agg #[.int .i64 0, .int .i64 0, .bool false, .int .i64 0, .int .i64 0, .string ByteArray.empty, .string ByteArray.empty, .string ByteArray.empty, .slice none 0 0, .slice none 0 0]] 8 (World.laidAll_os _ _ _)
      (World.shaped_of_ZipB (by kernel_rfl) (by kernel_rfl)) (by kernel_rfl) (by kernel_rfl) (by kernel_rfl)
      (by rw [MakeChecks.laidMetH_plain _ _ _ (by kernel_rfl)]; exact laidMet_laidAll _ (by kernel_rfl) (by kernel_rfl))) ?_
  intro W base args ds gs before hval0 hW _ hL hsh
  have hval : ∀ (j : Nat) t v, Tryz.f4.params[j]? = some t → args[j]? = some v → Value.okWide Tryz.prog W .any base t v := hval0
  have hW' := hW
  obtain ⟨p, q, hA0, hV, rfl, hfz, hnd⟩ := hW
  have hA : DataW.TrodAll enc Tryz.prog W 0 (fun _ => true) true Tryz.f4.params.toList args.toList ds p := hA0
  rw [Tryz.params4] at hA hval
  obtain ⟨v0, vs0, d0, ds0, p0, q0, hargs, rfl, rfl, h0, r0⟩ := trodAll_cons hA
  obtain ⟨rfl, rfl, rfl⟩ := trodAll_nil r0
  obtain rfl : args = #[v0] := by cases args; simp_all
  obtain ⟨rfl, rfl⟩ := trodVars_none hV
  obtain ⟨cs0, rfl, _⟩ := okWide_struct Tryz.underlying27 (hval 0 27 v0 rfl rfl)
  obtain ⟨n0, t0⟩ := h0
  obtain ⟨⟨x, hok⟩, F0, hx⟩ := (read_trees n0).1 _ _ t0
  clear hA0 hval0
  simp only [List.append_nil] at hW'
  have hlt : ∀ p ∈ p0, p.block < W.heap.size := fun p hp => hW'.lt p hp
  have hrel : RelA Tryz.prog W (fun _ => none) (fun _ => True) [.ag (csOf x.row)] [.agg cs0] := ⟨⟨cs0.toList, by simp, csOf_rel hx fun _ _ => trivial⟩, trivial⟩
  have hcall := (lawExpr_d x hok).top (by simp only [List.flatMap_cons, List.flatMap_nil, List.append_nil]; exact plainL_csOf _) hrel (laid_glw hL hsh)
  refine hcall.mono fun e W' ⟨v, r, he, hr, hb, hf, β, okk, hv⟩ => ?_
  subst he hr
  obtain ⟨rfl, _⟩ := hv
  exact ⟨_, rfl, post_old (pa := p0) (pv := []) hW' (fun _ _ _ => (trodAll_cons_mk (shut_bool Tryz.underlying4 _) trodAll_mk0))
    (fun sp hsp => trodAll_mk1 (WideElems.Trod_stays (t := 27) laidOut (by kernel_rfl) (of_decide_eq_true (by kernel_rfl)) ⟨n0, t0⟩ (fun p hp => hb.same (hlt p hp)) (fun p hp => hsp p hp)))
    (fun _ _ => rfl) (by simp)
    (hb.frame _) hf (ok_one (by kernel_rfl) rfl (okWide_bool_mk Tryz.underlying4 _))⟩
theorem over : Rows.fnExactExprTextRow.holds Tryz.pinned (OpenSpec.ofChange Rows.fnExactExprTextSpec) :=
  OpenClaim.holds_of_wide 4 Tryz.f4 rfl rfl rfl rfl rfl rfl rfl ⟨rfl, rfl, rfl, rfl, rfl⟩ rfl rfl rfl rfl rfl (by kernel_rfl) Tryz.func4 (by kernel_rfl)
    (of_decide_eq_true (by kernel_rfl)) (by unfold Func.isWrapper; first | (rw [if_pos (by decide +kernel)]; kernel_rfl) | (rw [if_neg (by decide +kernel)]; exact ⟨rfl, rfl⟩))
    (fun os started H enc _ => lifted os started H enc)
theorem proved : Rows.FnExactExprTextCardSaid :=
  Claim7.holds_tied_plain_at .later [] [.data, .data, .data, .data, .sentinel, .sentinel, .pinned] true (true, "6590688ff009dfb47587b89caa252e7ba678d27157de1c43c810c5668e054754") true over (fun _ h => by cases h) (by kernel_rfl) (fun _ h => by cases h) fnExactExprText_row_tie rfl ⟨rfl, rfl⟩ (by kernel_rfl) rfl
    (fun f fn hf hfn => by
      obtain rfl : f = 4 := Option.some.inj ((show Tryz.prog.funcNamed Rows.fnExactExprTextRow.func = some 4 by kernel_rfl).symm.trans hf) |>.symm
      obtain rfl : fn = Tryz.f4 := (Option.some.inj (Tryz.func4.symm.trans hfn)).symm
      exact ⟨by kernel_rfl, fun j t ht => by
        rw [Tryz.params4] at ht
        have hm : t ∈ [27] := by simpa using Array.mem_of_getElem? ht
        have hall : ([27].all fun u => !Tryz.prog.wantsStandIn u) = true := by kernel_rfl
        exact (show Tryz.prog.wantsStandIn t = false by simpa using List.all_eq_true.1 hall t hm)⟩)
    (by kernel_rfl)
#print axioms proved
end fnExactExprText
end Go.Proofs.YtfdcibofiibppaaGreatDoor
