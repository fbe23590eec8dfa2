/-
  The texts of results.
  Conditions: none.
-/
import Derived.Test.YtlbbflchkkcdhaaDoorTextB
import Derived.Lib.UnsafeStr
set_option linter.unusedVariables false
set_option linter.unusedSimpArgs false
set_option linter.unusedVariables false
set_option linter.unusedSimpArgs false
set_option maxRecDepth 8000
namespace Go.Proofs.YtlbbflchkkcdhaaDoor
open Go Go.Dv
open Go.Vc (D shrI xorI andI and255)
open Go.RowKit (Below)
open Go.Vc (CellF RowF ValsF okV vis)
theorem okA_okR {w : World} {ok0 : Nat → Prop} {L : Ob} {β : Nat → Option Nat} {b : Nat} (h : okA ok0 L β b) : okR w ok0 L β L β b := ⟨h.1, fun _ => .inl h.2⟩
theorem copyCheck_w (w : World) (b : Nat) (p v : Value) (lh : Nat × Nat) (hb : w.heap[b]? = some (.cells #[p, v] 58 lh)) (hlh : Lh 2 lh) (hp : p = .pointer none ∨ p = .pointer (some ⟨b, 0, none⟩)) :
    Calls Tryd.prog 43 #[.pointer (some ⟨b, 0, none⟩)] w fun e w' => e = .returned (.tuple #[]) ∧ ∃ p', (p' = .pointer none ∨ p' = .pointer (some ⟨b, 0, none⟩)) ∧ w' = w.setRow b #[p', v] := by
  have hc : w.cell? ⟨b, 0, none⟩ = some p := by simp [World.cell?, hb]
  have hself : w.setRow b #[p, v] = w := setRow_self w b _ _ _ hb
  rcases hp with rfl | rfl
  · have hsh : w.shape? b = some (58, 2) := by simp [World.shape?, hb]
    have hfz : w.frozen? ⟨b, 0, none⟩ = false := by
      have := hlh 0 (by decide)
      obtain ⟨lo, hi⟩ := lh
      simp only [World.frozen?, hb, Bool.and_eq_false_iff, decide_eq_false_iff_not]
      simp only at this; omega
    refine (Any.Builder_copyCheck_fresh { Tryd.lays155 with } Tryd.Builder_Extra_155.toX72 b w hc hsh hfz).mono ?_
    rintro e w' ⟨rfl, rfl⟩
    exact ⟨rfl, _, .inr rfl, by rw [setCell_eq_setRow w b 0 _ _ _ _ hb]; rfl⟩
  · refine (Any.Builder_copyCheck_used { Tryd.lays155 with } Tryd.Builder_Extra_155.toX72 b w hc).mono ?_
    rintro e w' ⟨rfl, rfl⟩
    exact ⟨rfl, _, .inr rfl, hself.symm⟩
theorem copyCheck_d (x : C) (hx : flatC x = true) (hf : fpC x = []) (hx1 : x ≠ .self) : Cl Tryd.prog 43 [.c (.p 9000 0)] [[.self, x]] fun r os => r = .tu [] ∧ os = [[.self, x]] := by
  refine ⟨by kernel_rfl, fun w β ok0 vs ha ho hg => ?_⟩
  have hL : lent [.c (.p 9000 0)] [[.self, x]] = expB 0 [[.self, x]] := rfl
  have hB : back (.tu []) [[.self, x]] = expB 0 [[.self, x]] := rfl
  generalize hLL : expB 0 [[C.self, x]] = L at hL hB
  rw [hL] at ha ho hg ⊢
  have hlk : Go.Dv.look L 9000 = some (.str (expC 9200 [.self, x])) := by rw [← hLL]; rfl
  cases vs with
  | nil => exact ha.elim
  | cons v0 r =>
    cases r with
    | cons _ _ => exact ha.2.elim
    | nil =>
      obtain ⟨b, hb, rfl⟩ := ha.1
      obtain ⟨b', cells, ty, lh, hb', hc, hlh, hsf, hrel⟩ := ho.rel 9000 _ hlk
      have : b' = b := by rw [hb] at hb'; injection hb' with e; exact e.symm
      subst this
      obtain ⟨rfl, hp⟩ := hsf 0 rfl
      obtain ⟨p, v, hcl⟩ : ∃ p v, cells = #[p, v] := by
        have := hrel.length
        have h2 : cells.toList.length = 2 := by rw [← this]; rfl
        match hq : cells.toList, h2 with
        | [p, v], _ => exact ⟨p, v, by rw [← Array.toArray_toList (xs := cells), hq]⟩
      subst hcl
      have how : ownB L β b' := ⟨9000, _, hlk, hb⟩
      refine (copyCheck_w w b' p v lh hc (by simpa using hlh) (by simpa using hp)).mono ?_
      rintro e w' ⟨rfl, p', hp', rfl⟩
      have hoth : ∀ y, y ≠ b' → (w.setRow b' #[p', v]).heap[y]? = w.heap[y]? := fun y hy => setRow_other w b' y _ hy
      have hnew := setRow_heap w b' #[p, v] #[p', v] 58 _ hc
      have hcells : ∀ (y : Nat) cs2 ty2 lh2, w.heap[y]? = some (.cells cs2 ty2 lh2) → ∃ cs3 lh3, (w.setRow b' #[p', v]).heap[y]? = some (.cells cs3 ty2 lh3) ∧ cs3.size = cs2.size := fun y cs2 ty2 lh2 hy => by
        by_cases e : y = b'
        · subst e
          rw [hc] at hy; injection hy with hy; injection hy with e1 e2 e3
          subst e1 e2 e3
          exact ⟨_, _, hnew, rfl⟩
        · exact ⟨cs2, lh2, (hoth y e).trans hy, rfl⟩
      have hst : Stab w (w.setRow b' #[p', v]) (okA ok0 L β) (okR w ok0 L β L β) := ⟨fun y _ hy => ⟨hoth y fun e => hy.1 (e ▸ how), okA_okR hy⟩, hcells⟩
      refine ⟨_, .tu [], [[.self, x]], β, rfl, ⟨rfl, rfl⟩, ?_⟩
      refine ⟨⟨[], rfl, trivial⟩, ?_, fun _ _ => rfl, rfl, ?_, by simp [Wd], ⟨rfl, rfl, rfl⟩, ?_, ?_⟩
      · rw [hB]
        refine ⟨fun i o hl => ?_, ho.inj⟩
        by_cases hi : i = 9000
        · subst hi
          rw [hlk] at hl; injection hl with hl; subst hl
          have hr := RelL.st hst hrel
          refine ⟨b', #[p', v], 58, lh, hb, hnew, by simpa using hlh, fun k hk => ?_, ?_⟩
          · refine ⟨rfl, ?_⟩
            match k, hk with
            | 0, _ => simpa using hp'
            | 1, hk =>
              have := expC_self hk
              simp at this
              exact absurd this hx1
          · refine ⟨?_, hr.2⟩
            rcases hp' with h | h
            · exact .inl h
            · exact .inr ⟨b', h⟩
        · refine (ho.rel i o hl).st hst fun y hy => hoth y fun e => ?_
          subst e
          exact hi (ho.inj i 9000 o _ y hl hlk hy hb)
      · rw [hB]
        exact ⟨by simp, fun y _ hn => hoth y fun e => hn (e ▸ how), fun y _ h => h, hcells⟩
      · have : fps (.tu []) [[.self, x]] = [] := by show [] ++ (([] ++ (fpC x ++ [])) ++ []) = []; rw [hf]; rfl
        rw [this]; exact ⟨List.nodup_nil, fun y hy => by cases hy⟩
      · have h1 : flatL [C.self, x] = true := by show (true && (flatC x && true)) = true; rw [hx]; rfl
        show (true && true && ((flatL [C.self, x] && true) && true) && true) = true
        rw [h1]; rfl
theorem WriteString_d (bs : List UInt8) (s : ByteArray) (h : bs.length + s.size ≤ 100000000) : Cl Tryd.prog 28 [.c (.p 9000 0), vs s] [[.self, .ow 5 bs.length (bytesD bs) none]] fun r os => r = .tu [([.v (.int .i64 s.size)], true), ([.v .nilIface], true)] ∧ os = [[.self, .ow 5 (bs.length + s.size) (bytesD (bs ++ s.data.toList)) none]] := by
  refine cl_of_d follows_mixed false Tryd.func28 rfl (by kernel_rfl) ?_
  simp only [Tryd.f28, z0, z1, z2, z3, z4, z5, z6, z7, z8, z9, z10, z11, z12, z13, z14, z15, z16, z17, z18, t0, t1, t2, t3, t4, t5, t6, dcrs, rngs, reduceIte, Nat.reduceLT, Nat.reduceLeDiff, Nat.reduceEqDiff, Nat.reduceAdd, Nat.reduceMul, Nat.reduceSub, Nat.reduceMod, Nat.reduceDiv, Int.reduceLE, Int.reduceLT, Int.reduceEq, Int.reduceNe, Nat.reduceBEq, ne_eq, reduceCtorEq, not_false_eq_true, implies_true]
  refine CallQ.intro (copyCheck_d (.ow 5 bs.length (bytesD bs) none) rfl rfl (fun e => by cases e)) ?_ ?_ ?_
  · decide
  · simp only [z0, z1, z2, z3, z4, z5, z6, z7, z8, z9, z10, z11, z12, z13, z14, z15, z16, z17, z18, t0, t1, t2, t3, t4, t5, t6, dcrs, rngs, reduceIte, Nat.reduceLT, Nat.reduceLeDiff, Nat.reduceEqDiff, Nat.reduceAdd, Nat.reduceMul, Nat.reduceSub, Nat.reduceMod, Nat.reduceDiv, Int.reduceLE, Int.reduceLT, Int.reduceEq, Int.reduceNe, Nat.reduceBEq, ne_eq, reduceCtorEq, not_false_eq_true, implies_true]
  rintro r os ⟨rfl, rfl⟩ hos
  simp only [z0, z1, z2, z3, z4, z5, z6, z7, z8, z9, z10, z11, z12, z13, z14, z15, z16, z17, z18, t0, t1, t2, t3, t4, t5, t6, dcrs, rngs, reduceIte, Nat.reduceLT, Nat.reduceLeDiff, Nat.reduceEqDiff, Nat.reduceAdd, Nat.reduceMul, Nat.reduceSub, Nat.reduceMod, Nat.reduceDiv, Int.reduceLE, Int.reduceLT, Int.reduceEq, Int.reduceNe, Nat.reduceBEq, ne_eq, reduceCtorEq, not_false_eq_true, implies_true]
  refine ⟨by kernel_rfl, by rw [bytesD_len, size_toList, Nat.mul_one], ⟨by simp only [maxLen]; omega, by omega⟩, fun _ => ?_⟩
  rw [bytesD_app]
  refine ⟨_, _, ⟨rfl, rfl⟩, endOk ?_⟩
  simp only [z0, z1, z2, z3, z4, z5, z6, z7, z8, z9, z10, z11, z12, z13, z14, z15, z16, z17, z18, t0, t1, t2, t3, t4, t5, t6, dcrs, rngs, reduceIte, Nat.reduceLT, Nat.reduceLeDiff, Nat.reduceEqDiff, Nat.reduceAdd, Nat.reduceMul, Nat.reduceSub, Nat.reduceMod, Nat.reduceDiv, Int.reduceLE, Int.reduceLT, Int.reduceEq, Int.reduceNe, Nat.reduceBEq, ne_eq, reduceCtorEq, not_false_eq_true, implies_true]

end Go.Proofs.YtlbbflchkkcdhaaDoor

set_option linter.unusedVariables false
namespace Go.Proofs.YtlbbflchkkcdhaaDoor
open Go Go.Shelf Go.RowKit Go.Proofs
section
variable {P : Program} {ρ : Ren}
/-- From one world to the other: what is not g stands; g has its cells. -/
structure But (g : Option Nat) (w w' : World) : Prop where
  size : w.heap.size ≤ w'.heap.size
  keep : ∀ x, x < w.heap.size → g ≠ some x → w'.heap[x]? = w.heap[x]?
  cells : ∀ x, g = some x → ∀ cs t lh, w.heap[x]? = some (.cells cs t lh) → ∃ lh', w'.heap[x]? = some (.cells cs t lh')
  os : w'.os = w.os
  tape : w'.tape = w.tape
  output : w'.output = w.output
theorem But.drew (g : Option Nat) (w : World) : But g w w.drew := ⟨Nat.le_refl _, fun _ _ _ => rfl, fun _ _ _ _ lh h => ⟨lh, h⟩, rfl, rfl, rfl⟩
theorem But.alloc {g : Option Nat} {w w' : World} (h : But g w w') (o : Obj) : But g w (w'.alloc o) where
  size := by have := h.size; simp; omega
  keep := fun x hx hg => (Go.heap_alloc_old w' o (Nat.lt_of_lt_of_le hx h.size)).trans (h.keep x hx hg)
  cells := fun x hg cs t lh hc => by
    obtain ⟨lh', h1⟩ := h.cells x hg cs t lh hc
    exact ⟨lh', (Go.heap_alloc_old w' o (Array.getElem?_eq_some_iff.1 h1).1).trans h1⟩
  os := h.os
  tape := h.tape
  output := h.output
theorem But.drewR {g : Option Nat} {w w' : World} (h : But g w w') : But g w w'.drew := ⟨h.size, h.keep, h.cells, h.os, h.tape, h.output⟩
theorem But.freeze {w w' : World} (g n : Nat) (h : But (some g) w w') : But (some g) w (w'.freeze ⟨g, 0, none⟩ n) := by
  unfold World.freeze
  split
  · exact h
  · refine ⟨by simpa using h.size, fun x hx hg => ?_, fun x hg cs t lh hc => ?_, h.os, h.tape, h.output⟩
    · have : ¬ g = x := fun e => hg (by rw [e])
      simp only [Array.getElem?_modify, if_neg this]; exact h.keep x hx hg
    · obtain ⟨lh', h1⟩ := h.cells x hg cs t lh hc
      injection hg with hg; subst hg
      simp only [Array.getElem?_modify, if_true, h1, Option.map_some]
      exact ⟨_, rfl⟩
set_option maxHeartbeats 1000000 in
set_option maxRecDepth 100000 in
theorem string_some (L : Lays.n169 P ρ) (X : Builder.Extra P ρ) (b g cap : Nat) (p : Value) (cur : Array Value) (fz : Nat × Nat) (l : List UInt8) (w : World) (h0 : l ≠ []) (hbk : w.heap[b]? = some (.cells #[p, .slice (some ⟨g, 0, none⟩) l.length cap] (ρ.t 72) fz))
    (hg : ∃ fg, w.heap[g]? = some (.cells cur (ρ.t 5) fg)) (hnc : l.length ≤ cap) (hcm : cap ≤ maxLen) (hcs : cap ≤ cur.size) (htake : ∀ (j : Nat) (x : UInt8), l[j]? = some x → cur.toList[j]? = some (Value.int .u8 (x.toNat : Int))) :
    Calls P (ρ.f 169) #[.pointer (some ⟨b, 0, none⟩)] w fun e w' => e = .returned (.string ⟨l.toArray⟩) ∧ But (some g) w w' := by
  obtain ⟨fg, hg⟩ := hg
  have hl0 : l.length ≠ 0 := by simpa using h0
  have c1 : w.drew.cell? ⟨b, 1, none⟩ = some (.slice (some ⟨g, 0, none⟩) l.length cap) := by
    have : w.drew.heap[b]? = some (.cells #[p, .slice (some ⟨g, 0, none⟩) l.length cap] (ρ.t 72) fz) := hbk
    rw [Lib.cell_of_heap this]; rfl
  have hSD : (Builtin.unsafeSliceData_ #[(ρ.t 37)] (ρ.t 127) #[.slice (some ⟨g, 0, none⟩) l.length cap]).run P w.drew = .ok (.pointer (some ⟨g, 0, none⟩)) w.drew :=
    Lib.run_unsafeSliceData_row _ _ _ _ _ _ (by omega)
  have hUS : (Builtin.unsafeString_ #[(ρ.t 127), (ρ.t 3)] (ρ.t 9) #[.pointer (some ⟨g, 0, none⟩), .int .i64 l.length]).run P w.drew = .ok (.string ⟨l.toArray⟩) (w.drew.freeze ⟨g, 0, none⟩ l.length) := by
    refine Lib.run_unsafeString_row w.drew (ρ.t 127) (ρ.t 3) (ρ.t 9) (ρ.t 5) L.t127 X.cellsByte g cur.size (by have hg' : w.drew.heap[g]? = some (.cells cur (ρ.t 5) fg) := hg; simp [World.shape?, hg']) l h0 (by omega) (by unfold maxLen at hcm; omega) ?_
    intro j x hx
    have hg' : w.drew.heap[g]? = some (.cells cur (ρ.t 5) fg) := hg
    have e : (⟨g, 0, none⟩ : Addr).add j = ⟨g, j, none⟩ := by unfold Addr.add; split <;> simp_all
    rw [e, Lib.cell_of_heap hg']
    have := htake j x hx
    simpa using this
  have mixed := L.mixed
  have t72 := L.t72; have a72 := L.a72; have z72 := L.z72; have v72 := L.v72; have u72 := run_underlying L.t72
  have t70 := L.t70; have a70 := L.a70; have z70 := L.z70; have v70 := L.v70; have u70 := run_underlying L.t70
  have t37 := L.t37; have a37 := L.a37; have z37 := L.z37; have v37 := L.v37; have u37 := run_underlying L.t37
  have t127 := L.t127; have a127 := L.a127; have z127 := L.z127; have v127 := L.v127; have u127 := run_underlying L.t127
  have t3 := L.t3; have a3 := L.a3; have z3 := L.z3; have v3 := L.v3; have u3 := run_underlying L.t3
  have t9 := L.t9; have a9 := L.a9; have z9 := L.z9; have v9 := L.v9; have u9 := run_underlying L.t9
  have t5 := X.t5; have a5 := X.a5; have z5 := X.z5; have v5 := X.v5; have u5 := run_underlying X.t5
  go_enter L.f169, Body.n169_ntmps ρ
  go_wp2
  go_region_o
  all_goals (go_wp2; go_ret; exact ⟨rfl, (But.drew _ w).freeze g _⟩)
set_option maxHeartbeats 1000000 in
set_option maxRecDepth 100000 in
theorem string_none (L : Lays.n169 P ρ) (X : Builder.Extra P ρ) (b : Nat) (p : Value) (fz : Nat × Nat) (w : World) (hbk : w.heap[b]? = some (.cells #[p, .slice none 0 0] (ρ.t 72) fz)) :
    Calls P (ρ.f 169) #[.pointer (some ⟨b, 0, none⟩)] w fun e w' => e = .returned (.string ⟨#[]⟩) ∧ But none w w' := by
  have hUS := Any.unsafeString_none L X
  have c1 : w.drew.cell? ⟨b, 1, none⟩ = some (.slice none 0 0) := by
    have : w.drew.heap[b]? = some (.cells #[p, .slice none 0 0] (ρ.t 72) fz) := hbk
    rw [Lib.cell_of_heap this]; rfl
  have hSD : (Builtin.unsafeSliceData_ #[(ρ.t 37)] (ρ.t 127) #[.slice none 0 0]).run P w.drew = .ok (.pointer none) w.drew := rfl
  have mixed := L.mixed
  have t72 := L.t72; have a72 := L.a72; have z72 := L.z72; have v72 := L.v72; have u72 := run_underlying L.t72
  have t70 := L.t70; have a70 := L.a70; have z70 := L.z70; have v70 := L.v70; have u70 := run_underlying L.t70
  have t37 := L.t37; have a37 := L.a37; have z37 := L.z37; have v37 := L.v37; have u37 := run_underlying L.t37
  have t127 := L.t127; have a127 := L.a127; have z127 := L.z127; have v127 := L.v127; have u127 := run_underlying L.t127
  have t3 := L.t3; have a3 := L.a3; have z3 := L.z3; have v3 := L.v3; have u3 := run_underlying L.t3
  have t9 := L.t9; have a9 := L.a9; have z9 := L.z9; have v9 := L.v9; have u9 := run_underlying L.t9
  have t5 := X.t5; have a5 := X.a5; have z5 := X.z5; have v5 := X.v5; have u5 := run_underlying X.t5
  go_enter L.f169, Body.n169_ntmps ρ
  go_wp2
  go_region_o
  all_goals (go_wp2; go_ret; exact ⟨rfl, But.drew _ w⟩)
set_option maxHeartbeats 1000000 in
set_option maxRecDepth 100000 in
theorem string_noroom (L : Lays.n169 P ρ) (X : Builder.Extra P ρ) (b g : Nat) (p : Value) (cur : Array Value) (fz fg : Nat × Nat) (w : World) (hbk : w.heap[b]? = some (.cells #[p, .slice (some ⟨g, 0, none⟩) 0 0] (ρ.t 72) fz)) (hg : w.heap[g]? = some (.cells cur (ρ.t 5) fg)) :
    Calls P (ρ.f 169) #[.pointer (some ⟨b, 0, none⟩)] w fun e w' => e = .returned (.string ⟨#[]⟩) ∧ But none w w' := by
  have hUS := Any.unsafeString_none L X
  have hlt : b < w.heap.size := (Array.getElem?_eq_some_iff.1 hbk).1
  have c1 : w.drew.cell? ⟨b, 1, none⟩ = some (.slice (some ⟨g, 0, none⟩) 0 0) := by
    have : w.drew.heap[b]? = some (.cells #[p, .slice (some ⟨g, 0, none⟩) 0 0] (ρ.t 72) fz) := hbk
    rw [Lib.cell_of_heap this]; rfl
  have hSD : (Builtin.unsafeSliceData_ #[(ρ.t 37)] (ρ.t 127) #[.slice (some ⟨g, 0, none⟩) 0 0]).run P w.drew = .ok (.pointer (some ⟨w.drew.heap.size, 0, none⟩)) (w.drew.alloc (.view ⟨g, 0, none⟩ (ρ.t 5))) :=
    Lib.run_unsafeSliceData_zero w.drew _ _ (ρ.t 5) L.t127 ⟨g, 0, none⟩ 0 ((ρ.t 5), cur.size) (by have hg' : w.drew.heap[g]? = some (.cells cur (ρ.t 5) fg) := hg; simp [World.shape?, hg'])
  have c2 : (w.drew.alloc (.view ⟨g, 0, none⟩ (ρ.t 5))).cell? ⟨b, 1, none⟩ = some (.slice (some ⟨g, 0, none⟩) 0 0) := by
    have : (w.drew.alloc (.view ⟨g, 0, none⟩ (ρ.t 5))).heap[b]? = _ := (Lib.alloc_old w.drew _ b hlt).trans hbk
    rw [Lib.cell_of_heap this]; rfl
  have c3 : (w.alloc (.view ⟨g, 0, none⟩ (ρ.t 5))).drew.cell? ⟨b, 1, none⟩ = some (.slice (some ⟨g, 0, none⟩) 0 0) := c2
  have c0 : w.cell? ⟨b, 1, none⟩ = some (.slice (some ⟨g, 0, none⟩) 0 0) := c1
  have mixed := L.mixed
  have t72 := L.t72; have a72 := L.a72; have z72 := L.z72; have v72 := L.v72; have u72 := run_underlying L.t72
  have t70 := L.t70; have a70 := L.a70; have z70 := L.z70; have v70 := L.v70; have u70 := run_underlying L.t70
  have t37 := L.t37; have a37 := L.a37; have z37 := L.z37; have v37 := L.v37; have u37 := run_underlying L.t37
  have t127 := L.t127; have a127 := L.a127; have z127 := L.z127; have v127 := L.v127; have u127 := run_underlying L.t127
  have t3 := L.t3; have a3 := L.a3; have z3 := L.z3; have v3 := L.v3; have u3 := run_underlying L.t3
  have t9 := L.t9; have a9 := L.a9; have z9 := L.z9; have v9 := L.v9; have u9 := run_underlying L.t9
  have t5 := X.t5; have a5 := X.a5; have z5 := X.z5; have v5 := X.v5; have u5 := run_underlying X.t5
  go_enter L.f169, Body.n169_ntmps ρ
  go_wp2
  go_region_o
  all_goals (go_wp2; go_ret; exact ⟨rfl, (But.drew _ w).alloc _⟩)
set_option maxHeartbeats 1000000 in
set_option maxRecDepth 100000 in
theorem string_room (L : Lays.n169 P ρ) (X : Builder.Extra P ρ) (b g cap : Nat) (p : Value) (fz : Nat × Nat) (w : World) (hc0 : cap ≠ 0) (hbk : w.heap[b]? = some (.cells #[p, .slice (some ⟨g, 0, none⟩) 0 cap] (ρ.t 72) fz)) :
    Calls P (ρ.f 169) #[.pointer (some ⟨b, 0, none⟩)] w fun e w' => e = .returned (.string ⟨#[]⟩) ∧ But none w w' := by
  have hUS := Any.unsafeString_none L X
  have c1 : w.drew.cell? ⟨b, 1, none⟩ = some (.slice (some ⟨g, 0, none⟩) 0 cap) := by
    have : w.drew.heap[b]? = some (.cells #[p, .slice (some ⟨g, 0, none⟩) 0 cap] (ρ.t 72) fz) := hbk
    rw [Lib.cell_of_heap this]; rfl
  have hSD : (Builtin.unsafeSliceData_ #[(ρ.t 37)] (ρ.t 127) #[.slice (some ⟨g, 0, none⟩) 0 cap]).run P w.drew = .ok (.pointer (some ⟨g, 0, none⟩)) w.drew :=
    Lib.run_unsafeSliceData_row _ _ _ _ _ _ hc0
  clear hc0
  have mixed := L.mixed
  have t72 := L.t72; have a72 := L.a72; have z72 := L.z72; have v72 := L.v72; have u72 := run_underlying L.t72
  have t70 := L.t70; have a70 := L.a70; have z70 := L.z70; have v70 := L.v70; have u70 := run_underlying L.t70
  have t37 := L.t37; have a37 := L.a37; have z37 := L.z37; have v37 := L.v37; have u37 := run_underlying L.t37
  have t127 := L.t127; have a127 := L.a127; have z127 := L.z127; have v127 := L.v127; have u127 := run_underlying L.t127
  have t3 := L.t3; have a3 := L.a3; have z3 := L.z3; have v3 := L.v3; have u3 := run_underlying L.t3
  have t9 := L.t9; have a9 := L.a9; have z9 := L.z9; have v9 := L.v9; have u9 := run_underlying L.t9
  have t5 := X.t5; have a5 := X.a5; have z5 := X.z5; have v5 := X.v5; have u5 := run_underlying X.t5
  go_enter L.f169, Body.n169_ntmps ρ
  go_wp2
  go_region_o
  all_goals (go_wp2; go_ret; exact ⟨rfl, But.drew _ w⟩)
end

end Go.Proofs.YtlbbflchkkcdhaaDoor

set_option linter.unusedVariables false
set_option linter.unusedSimpArgs false
set_option maxRecDepth 8000
namespace Go.Proofs.YtlbbflchkkcdhaaDoor
open Go Go.Dv
open Go.Vc (D shrI xorI andI and255)
open Go.Vc (CellF RowF ValsF okV vis)
theorem bytes_get {w : World} : ∀ {l : List UInt8} {vs : List Value} {G : List Nat}, ValsF w (bytesD l) vs G → ∀ (j : Nat) (x : UInt8), l[j]? = some x → vs[j]? = some (Value.int .u8 (x.toNat : Int))
  | [], vs, G, _, j, b, hj => by simp at hj
  | c :: r, [], G, hv, _, _, _ => hv.elim
  | c :: r, v :: t, G, hv, 0, b, hj => by
    obtain ⟨F1, F2, h1, h2, _⟩ := hv
    simp at hj; subst hj; obtain ⟨rfl, _⟩ := h1; rfl
  | c :: r, v :: t, G, hv, j + 1, b, hj => by
    obtain ⟨F1, F2, h1, h2, _⟩ := hv
    simpa using bytes_get h2 j b (by simpa using hj)
theorem String_d (bs : List UInt8) (hbl : bs.length ≤ 100000000) : Cl Tryd.prog 30 [.c (.p 9000 0)] [[.self, .ow 5 bs.length (bytesD bs) none]] fun r os => r = vs ⟨bs.toArray⟩ ∧ os = [[.dead, .dead]] := by
  refine ⟨by kernel_rfl, fun w β ok0 vals ha ho hg => ?_⟩
  have hL : lent [.c (.p 9000 0)] [[.self, .ow 5 bs.length (bytesD bs) none]] = [(9000, .str [.self, .s 19200 bs.length]), (19200, .arr 5 bs.length (bytesD bs) none)] := rfl
  have hB : back (vs ⟨bs.toArray⟩) [[.dead, .dead]] = [(9000, .str [.dead, .dead])] := rfl
  rw [hL] at ha ho hg ⊢
  cases vals with
  | nil => exact ha.elim
  | cons v0 r =>
    cases r with
    | cons _ _ => exact ha.2.elim
    | nil =>
      obtain ⟨b, hb, rfl⟩ := ha.1
      obtain ⟨b', cells, ty, lh, hb', hc, hlh, hsf, hrel⟩ := ho.rel 9000 _ rfl
      have : b' = b := by rw [hb] at hb'; injection hb' with e; exact e.symm
      subst this
      obtain ⟨rfl, hp⟩ := hsf 0 rfl
      obtain ⟨p, v, hcl⟩ : ∃ p v, cells = #[p, v] := by
        have := hrel.length
        have h2 : cells.toList.length = 2 := by rw [← this]; rfl
        match hq : cells.toList, h2 with
        | [p, v], _ => exact ⟨p, v, by rw [← Array.toArray_toList (xs := cells), hq]⟩
      subst hcl
      have hv : OwnS Tryd.prog w (β 19200) bs.length v := hrel.2.1
      have how : ownB [(9000, .str [.self, .s 19200 bs.length]), (19200, .arr 5 bs.length (bytesD bs) none)] β b' := ⟨9000, _, rfl, hb⟩
      have fin : ∀ (g : Option Nat) (w' : World), (∀ y, g = some y → β 19200 = some y) → But g w w' → ∃ v r objs' β', Ending.returned (.string ⟨bs.toArray⟩) = .returned v ∧ (r = vs ⟨bs.toArray⟩ ∧ objs' = [[.dead, .dead]]) ∧
          Post Tryd.prog w β ok0 [(9000, .str [.self, .s 19200 bs.length]), (19200, .arr 5 bs.length (bytesD bs) none)] 1 v w' r objs' β' := by
        intro g w' hgo hbut
        have hgb : g ≠ some b' := fun e => by
          have := ho.inj 9000 19200 _ _ b' rfl rfl hb (hgo b' e)
          cases this
        refine ⟨_, vs ⟨bs.toArray⟩, [[.dead, .dead]], β, rfl, ⟨rfl, rfl⟩, ?_⟩
        refine ⟨⟨rfl, ?_⟩, ?_, fun _ _ => rfl, rfl, ?_, hbut.size, ⟨hbut.os, hbut.tape, hbut.output⟩, ?_, rfl⟩
        · show ByteArray.size ⟨bs.toArray⟩ ≤ maxLen
          show (List.toArray _).size ≤ maxLen
          simp only [List.size_toArray, maxLen]; omega
        · rw [hB]
          refine ⟨fun i o hl => ?_, fun i j o o' x hl hl' _ _ => ?_⟩
          · have hi : i = 9000 := by
              simp only [Go.Dv.look] at hl
              split at hl
              · rename_i e; exact e.symm
              · cases hl
            subst hi
            simp only [Go.Dv.look, if_true] at hl; injection hl with hl; subst hl
            exact ⟨b', #[p, v], 58, lh, hb, (hbut.keep b' (lt_of_heap hc) hgb).trans hc, hlh, SelfOk.none (fun x hx => by simp at hx; subst hx; exact fun e => by cases e), ⟨trivial, trivial, trivial⟩⟩
          · have a1 : ∀ {i : Nat} {o : O}, Go.Dv.look [(9000, O.str [.dead, .dead])] i = some o → i = 9000 := fun {i o} hl => by
              simp only [Go.Dv.look] at hl
              split at hl
              · rename_i e; exact e.symm
              · cases hl
            rw [a1 hl, a1 hl']
        · rw [hB]
          refine ⟨hbut.size, fun y hy hn => hbut.keep y hy fun e => hn ⟨19200, _, rfl, hgo y e⟩, fun y _ ⟨i, o, hl, hy⟩ => ?_, fun y cs ty2 lh2 hy => ?_⟩
          · have hi : i = 9000 := by
              simp only [Go.Dv.look] at hl
              split at hl
              · rename_i e; exact e.symm
              · cases hl
            subst hi
            exact ⟨9000, _, rfl, hy⟩
          · by_cases e : g = some y
            · obtain ⟨lh', h1⟩ := hbut.cells y e cs ty2 lh2 hy
              exact ⟨cs, lh', h1, rfl⟩
            · exact ⟨cs, lh2, (hbut.keep y (lt_of_heap hy) e).trans hy, rfl⟩
        · exact ⟨List.nodup_nil, fun y hy => by cases hy⟩
      have empty : ∀ (w' : World), bs.length = 0 → But none w w' → ∃ v r objs' β', Ending.returned (.string ⟨#[]⟩) = .returned v ∧ (r = vs ⟨bs.toArray⟩ ∧ objs' = [[.dead, .dead]]) ∧
          Post Tryd.prog w β ok0 [(9000, .str [.self, .s 19200 bs.length]), (19200, .arr 5 bs.length (bytesD bs) none)] 1 v w' r objs' β' := by
        intro w' h0 hbut
        have := fin none w' (fun y e => by cases e) hbut
        have hbs : bs = [] := List.eq_nil_of_length_eq_zero h0
        rw [hbs] at this ⊢
        exact this
      rcases hbg : β 19200 with _ | g
      · rw [hbg] at hv
        obtain ⟨h0, rfl⟩ := hv
        refine (string_none Tryd.lays169 Tryd.Builder_Extra_169 b' p lh w hc).mono ?_
        rintro e w' ⟨rfl, hbut⟩
        exact empty w' h0 hbut
      · rw [hbg] at hv
        obtain ⟨cap, cs, ty, lhg, rfl, hnc, hcm, hcg, hsz⟩ := hv
        rcases ho.rel 19200 _ rfl with ⟨h1, _⟩ | ⟨g', vs', hd, junk, G, lh', h1, h2, hlh', h3, h4, h5, h6, h7⟩
        · rw [hbg] at h1; cases h1
        rw [hbg] at h1; injection h1 with h1; subst h1
        rw [hcg] at h2; injection h2 with h2; injection h2 with e1 e2 e3
        subst e1 e2 e3
        have hcs : cap * 1 ≤ cs.size := hsz 1 (by kernel_rfl)
        by_cases h0 : bs.length = 0
        · by_cases hc0 : cap = 0
          · subst hc0
            rw [h0] at hc
            refine (string_noroom Tryd.lays169 Tryd.Builder_Extra_169 b' g p cs lh lhg w hc hcg).mono ?_
            rintro e w' ⟨rfl, hbut⟩
            exact empty w' h0 hbut
          · rw [h0] at hc
            refine (string_room Tryd.lays169 Tryd.Builder_Extra_169 b' g cap p lh w hc0 hc).mono ?_
            rintro e w' ⟨rfl, hbut⟩
            exact empty w' h0 hbut
        · refine (string_some Tryd.lays169 Tryd.Builder_Extra_169 b' g cap p cs lh bs w (fun e => h0 (by rw [e]; rfl)) hc ⟨lhg, hcg⟩ hnc hcm (by omega) (fun j x hx => ?_)).mono ?_
          · have := bytes_get h4 j x hx
            rw [h3, List.getElem?_append_left (List.getElem?_eq_some_iff.1 this).1]; exact this
          · rintro e w' ⟨rfl, hbut⟩
            exact fin (some g) w' (fun y e => by rw [hbg]; exact e) hbut

end Go.Proofs.YtlbbflchkkcdhaaDoor

set_option linter.unusedVariables false
set_option linter.unusedSimpArgs false
set_option maxRecDepth 8000
namespace Go.Proofs.YtlbbflchkkcdhaaDoor
open Go Go.Dv
open Go.Vc (D shrI xorI andI and255)

theorem len_app (a : List UInt8) (s : ByteArray) : a.length + s.size = (a ++ s.data.toList).length := by rw [List.length_append, size_toList]
theorem iRowsText_d (rows : List (List Val)) (hok : okRows rows) (hsz : szRows rows ≤ 1048576) : Cl Tryd.prog 18 [.c (.sl rows.length (rows.flatMap vrow) none)] [] fun r _ => r = vs (rowsB rows) := by
  refine cl_of_d follows_mixed false Tryd.func18 rfl (by kernel_rfl) ?_
  simp only [Tryd.f18, z0, z1, z2, z3, z4, z5, z6, z7, z8, z9, z10, z11, z12, z13, z14, z15, z16, z17, z18, t0, t1, t2, t3, t4, t5, t6, dcrs, rngs, reduceIte, Nat.reduceLT, Nat.reduceLeDiff, Nat.reduceEqDiff, Nat.reduceAdd, Nat.reduceMul, Nat.reduceSub, Nat.reduceMod, Nat.reduceDiv, Int.reduceLE, Int.reduceLT, Int.reduceEq, Int.reduceNe, Nat.reduceBEq, ne_eq, reduceCtorEq, not_false_eq_true, implies_true]
  refine fun _ => ?_
  refine dLoop.gh [.virtC 3 1 10010029 5] ⟨by decide, ?_⟩
  simp only [z0, z1, z2, z3, z4, z5, z6, z7, z8, z9, z10, z11, z12, z13, z14, z15, z16, z17, z18, t0, t1, t2, t3, t4, t5, t6, dcrs, rngs, reduceIte, Nat.reduceLT, Nat.reduceLeDiff, Nat.reduceEqDiff, Nat.reduceAdd, Nat.reduceMul, Nat.reduceSub, Nat.reduceMod, Nat.reduceDiv, Int.reduceLE, Int.reduceLT, Int.reduceEq, Int.reduceNe, Nat.reduceBEq, ne_eq, reduceCtorEq, not_false_eq_true, implies_true]
  refine dLoop0.intro (fun f L p => ∃ (i : Nat) (bs : List UInt8) (F : Fp), f 11 = vi i ∧ i ≤ rows.length ∧ bs = rowsL (rows.take i) ∧ L = [(3, .str [.self, .s 10010029 bs.length]), (10010029, .arr 5 bs.length (bytesD bs) F)] ∧ p = none) (fun f _ _ => (rows.length - ixS (f 11)).toNat) [(3, .str [.self, .s 10010029 0]), (10010029, .arr 5 0 (bytesD []) (some []))] none ⟨SubO.cons rfl (SubO.cons rfl (SubO.nil _)), PoSub.none _, ?_⟩ ?_
  · simp only [z0, z1, z2, z3, z4, z5, z6, z7, z8, z9, z10, z11, z12, z13, z14, z15, z16, z17, z18, t0, t1, t2, t3, t4, t5, t6, dcrs, rngs, reduceIte, Nat.reduceLT, Nat.reduceLeDiff, Nat.reduceEqDiff, Nat.reduceAdd, Nat.reduceMul, Nat.reduceSub, Nat.reduceMod, Nat.reduceDiv, Int.reduceLE, Int.reduceLT, Int.reduceEq, Int.reduceNe, Nat.reduceBEq, ne_eq, reduceCtorEq, not_false_eq_true, implies_true]
    exact ⟨0, [], some [], rfl, by omega, rfl, rfl⟩
  · rintro g L p ⟨i, bs, F, h11, hi, hbs, rfl, rfl⟩
    simp only [z0, z1, z2, z3, z4, z5, z6, z7, z8, z9, z10, z11, z12, z13, z14, z15, z16, z17, z18, t0, t1, t2, t3, t4, t5, t6, dcrs, rngs, reduceIte, Nat.reduceLT, Nat.reduceLeDiff, Nat.reduceEqDiff, Nat.reduceAdd, Nat.reduceMul, Nat.reduceSub, Nat.reduceMod, Nat.reduceDiv, Int.reduceLE, Int.reduceLT, Int.reduceEq, Int.reduceNe, Nat.reduceBEq, ne_eq, reduceCtorEq, not_false_eq_true, implies_true] at h11
    have hbl : bs.length ≤ 21 * szRows (rows.take i) := by rw [hbs]; exact rowsL_len hok i hi
    have hrt := szRows_take rows i
    simp only [z0, z1, z2, z3, z4, z5, z6, z7, z8, z9, z10, z11, z12, z13, z14, z15, z16, z17, z18, t0, t1, t2, t3, t4, t5, t6, dcrs, rngs, reduceIte, Nat.reduceLT, Nat.reduceLeDiff, Nat.reduceEqDiff, Nat.reduceAdd, Nat.reduceMul, Nat.reduceSub, Nat.reduceMod, Nat.reduceDiv, Int.reduceLE, Int.reduceLT, Int.reduceEq, Int.reduceNe, Nat.reduceBEq, ne_eq, reduceCtorEq, not_false_eq_true, implies_true, h11, Int.ofNat_lt]
    refine And.intro (fun hlt => ?_) (fun hge => ?_)
    · refine ⟨by omega, hlt, _, drop_row vrow_len (List.getElem?_eq_getElem hlt), vrow_ne _ _, ?_⟩
      simp only [z0, z1, z2, z3, z4, z5, z6, z7, z8, z9, z10, z11, z12, z13, z14, z15, z16, z17, z18, t0, t1, t2, t3, t4, t5, t6, dcrs, rngs, reduceIte, Nat.reduceLT, Nat.reduceLeDiff, Nat.reduceEqDiff, Nat.reduceAdd, Nat.reduceMul, Nat.reduceSub, Nat.reduceMod, Nat.reduceDiv, Int.reduceLE, Int.reduceLT, Int.reduceEq, Int.reduceNe, Nat.reduceBEq, ne_eq, reduceCtorEq, not_false_eq_true, implies_true, h11, vrow_tk, vrow, Int.ofNat_lt]
      refine fun hkl => ?_
      have hrow := hok _ (List.getElem_mem hlt)
      have hrs := szRows_mem (List.getElem_mem hlt)
      refine dLoop.gh [.ren 10010029 10010027] ⟨by decide, by decide, ?_⟩
      simp only [z0, z1, z2, z3, z4, z5, z6, z7, z8, z9, z10, z11, z12, z13, z14, z15, z16, z17, z18, t0, t1, t2, t3, t4, t5, t6, dcrs, rngs, reduceIte, Nat.reduceLT, Nat.reduceLeDiff, Nat.reduceEqDiff, Nat.reduceAdd, Nat.reduceMul, Nat.reduceSub, Nat.reduceMod, Nat.reduceDiv, Int.reduceLE, Int.reduceLT, Int.reduceEq, Int.reduceNe, Nat.reduceBEq, ne_eq, reduceCtorEq, not_false_eq_true, implies_true, h11]
      refine dLoop0.intro (fun f L p => ∃ (k : Nat) (cs : List UInt8) (F : Fp), f 17 = vi k ∧ k ≤ rows[i].length ∧ cs = bs ++ rowL (rows[i].take k) ∧ L = [(3, .str [.self, .s 10010027 cs.length]), (10010027, .arr 5 cs.length (bytesD cs) F)] ∧ p = none) (fun f _ _ => (rows[i].length - ixS (f 17)).toNat) [(3, .str [.self, .s 10010027 bs.length]), (10010027, .arr 5 bs.length (bytesD bs) F)] none ⟨SubO.cons rfl (SubO.cons rfl (SubO.nil _)), PoSub.none _, ?_⟩ ?_
      · simp only [z0, z1, z2, z3, z4, z5, z6, z7, z8, z9, z10, z11, z12, z13, z14, z15, z16, z17, z18, t0, t1, t2, t3, t4, t5, t6, dcrs, rngs, reduceIte, Nat.reduceLT, Nat.reduceLeDiff, Nat.reduceEqDiff, Nat.reduceAdd, Nat.reduceMul, Nat.reduceSub, Nat.reduceMod, Nat.reduceDiv, Int.reduceLE, Int.reduceLT, Int.reduceEq, Int.reduceNe, Nat.reduceBEq, ne_eq, reduceCtorEq, not_false_eq_true, implies_true, h11]
        exact ⟨0, bs, F, rfl, by omega, by simp [rowL], rfl⟩
      · rintro g' L p ⟨k, cs, F', h17, hk, hcs, rfl, rfl⟩
        simp only [z0, z1, z2, z3, z4, z5, z6, z7, z8, z9, z10, z11, z12, z13, z14, z15, z16, z17, z18, t0, t1, t2, t3, t4, t5, t6, dcrs, rngs, reduceIte, Nat.reduceLT, Nat.reduceLeDiff, Nat.reduceEqDiff, Nat.reduceAdd, Nat.reduceMul, Nat.reduceSub, Nat.reduceMod, Nat.reduceDiv, Int.reduceLE, Int.reduceLT, Int.reduceEq, Int.reduceNe, Nat.reduceBEq, ne_eq, reduceCtorEq, not_false_eq_true, implies_true] at h17
        have hrl' := rowL_len hrow k hk
        have hst := szVals_take rows[i] k
        have hcl : cs.length = bs.length + (rowL (rows[i].take k)).length := by rw [hcs, List.length_append]
        simp only [z0, z1, z2, z3, z4, z5, z6, z7, z8, z9, z10, z11, z12, z13, z14, z15, z16, z17, z18, t0, t1, t2, t3, t4, t5, t6, dcrs, rngs, reduceIte, Nat.reduceLT, Nat.reduceLeDiff, Nat.reduceEqDiff, Nat.reduceAdd, Nat.reduceMul, Nat.reduceSub, Nat.reduceMod, Nat.reduceDiv, Int.reduceLE, Int.reduceLT, Int.reduceEq, Int.reduceNe, Nat.reduceBEq, ne_eq, reduceCtorEq, not_false_eq_true, implies_true, h11, h17, Int.ofNat_lt]
        refine And.intro (fun hklt => ?_) (fun hkge => ?_)
        · have hv := hrow _ (List.getElem_mem hklt)
          have hvs := szVals_mem (List.getElem_mem hklt)
          have hvt := valT_size hv.1 hv.2
          refine ⟨by omega, hklt, _, drop_row Val.row_len (List.getElem?_eq_getElem hklt), Val.ne _ _, ?_⟩
          simp only [z0, z1, z2, z3, z4, z5, z6, z7, z8, z9, z10, z11, z12, z13, z14, z15, z16, z17, z18, t0, t1, t2, t3, t4, t5, t6, dcrs, rngs, reduceIte, Nat.reduceLT, Nat.reduceLeDiff, Nat.reduceEqDiff, Nat.reduceAdd, Nat.reduceMul, Nat.reduceSub, Nat.reduceMod, Nat.reduceDiv, Int.reduceLE, Int.reduceLT, Int.reduceEq, Int.reduceNe, Nat.reduceBEq, ne_eq, reduceCtorEq, not_false_eq_true, implies_true, h11, h17, Val.tk, Val.row]
          refine And.intro (fun hk0 => ?_) (fun hk0 => ?_)
          · skip
            refine CallQ.intro (WriteString_d cs ⟨#[124]⟩ (by show cs.length + 1 ≤ _; omega)) ?_ ?_ ?_
            · decide
            · simp only [z0, z1, z2, z3, z4, z5, z6, z7, z8, z9, z10, z11, z12, z13, z14, z15, z16, z17, z18, t0, t1, t2, t3, t4, t5, t6, dcrs, rngs, reduceIte, Nat.reduceLT, Nat.reduceLeDiff, Nat.reduceEqDiff, Nat.reduceAdd, Nat.reduceMul, Nat.reduceSub, Nat.reduceMod, Nat.reduceDiv, Int.reduceLE, Int.reduceLT, Int.reduceEq, Int.reduceNe, Nat.reduceBEq, ne_eq, reduceCtorEq, not_false_eq_true, implies_true, h11, h17]
            rintro r os ⟨rfl, rfl⟩ hos
            simp only [z0, z1, z2, z3, z4, z5, z6, z7, z8, z9, z10, z11, z12, z13, z14, z15, z16, z17, z18, t0, t1, t2, t3, t4, t5, t6, dcrs, rngs, reduceIte, Nat.reduceLT, Nat.reduceLeDiff, Nat.reduceEqDiff, Nat.reduceAdd, Nat.reduceMul, Nat.reduceSub, Nat.reduceMod, Nat.reduceDiv, Int.reduceLE, Int.reduceLT, Int.reduceEq, Int.reduceNe, Nat.reduceBEq, ne_eq, reduceCtorEq, not_false_eq_true, implies_true, h11, h17]
            refine call0 (iValueText_d rows[i][k] hv.1 hv.2 (by omega)) ?_ ?_ ?_
            · decide
            · simp only [z0, z1, z2, z3, z4, z5, z6, z7, z8, z9, z10, z11, z12, z13, z14, z15, z16, z17, z18, t0, t1, t2, t3, t4, t5, t6, dcrs, rngs, reduceIte, Nat.reduceLT, Nat.reduceLeDiff, Nat.reduceEqDiff, Nat.reduceAdd, Nat.reduceMul, Nat.reduceSub, Nat.reduceMod, Nat.reduceDiv, Int.reduceLE, Int.reduceLT, Int.reduceEq, Int.reduceNe, Nat.reduceBEq, ne_eq, reduceCtorEq, not_false_eq_true, implies_true, h11, h17, Val.row]
            rintro r rfl
            simp only [z0, z1, z2, z3, z4, z5, z6, z7, z8, z9, z10, z11, z12, z13, z14, z15, z16, z17, z18, t0, t1, t2, t3, t4, t5, t6, dcrs, rngs, reduceIte, Nat.reduceLT, Nat.reduceLeDiff, Nat.reduceEqDiff, Nat.reduceAdd, Nat.reduceMul, Nat.reduceSub, Nat.reduceMod, Nat.reduceDiv, Int.reduceLE, Int.reduceLT, Int.reduceEq, Int.reduceNe, Nat.reduceBEq, ne_eq, reduceCtorEq, not_false_eq_true, implies_true, h11, h17, Val.row]
            have e1 : cs.length + (⟨#[124]⟩ : ByteArray).size = (cs ++ (⟨#[124]⟩ : ByteArray).data.toList).length := by rw [List.length_append]; rfl
            rw [e1]
            refine CallQ.intro (WriteString_d (cs ++ (⟨#[124]⟩ : ByteArray).data.toList) (valT rows[i][k]) (by rw [← e1]; show cs.length + 1 + _ ≤ _; omega)) ?_ ?_ ?_
            · decide
            · simp only [z0, z1, z2, z3, z4, z5, z6, z7, z8, z9, z10, z11, z12, z13, z14, z15, z16, z17, z18, t0, t1, t2, t3, t4, t5, t6, dcrs, rngs, reduceIte, Nat.reduceLT, Nat.reduceLeDiff, Nat.reduceEqDiff, Nat.reduceAdd, Nat.reduceMul, Nat.reduceSub, Nat.reduceMod, Nat.reduceDiv, Int.reduceLE, Int.reduceLT, Int.reduceEq, Int.reduceNe, Nat.reduceBEq, ne_eq, reduceCtorEq, not_false_eq_true, implies_true, h11, h17]
            rintro r os ⟨rfl, rfl⟩ hos
            simp only [z0, z1, z2, z3, z4, z5, z6, z7, z8, z9, z10, z11, z12, z13, z14, z15, z16, z17, z18, t0, t1, t2, t3, t4, t5, t6, dcrs, rngs, reduceIte, Nat.reduceLT, Nat.reduceLeDiff, Nat.reduceEqDiff, Nat.reduceAdd, Nat.reduceMul, Nat.reduceSub, Nat.reduceMod, Nat.reduceDiv, Int.reduceLE, Int.reduceLT, Int.reduceEq, Int.reduceNe, Nat.reduceBEq, ne_eq, reduceCtorEq, not_false_eq_true, implies_true, h11, h17]
            have e2 := len_app ((cs ++ [124])) (valT rows[i][k])
            rw [e2, wrap_id (n := (k : Int) + 1) (by omega) (by omega)]
            exact ⟨[(3, .str [.self, .s 10010027 ((cs ++ [124]) ++ (valT rows[i][k]).data.toList).length]), (10010027, .arr 5 ((cs ++ [124]) ++ (valT rows[i][k]).data.toList).length (bytesD ((cs ++ [124]) ++ (valT rows[i][k]).data.toList)) none)], none, SubO.cons rfl (SubO.cons rfl (SubO.nil _)), PoSub.none _, ⟨k + 1, _, none, rfl, by omega, by rw [rowL_step hklt, hcs, if_pos (by omega)]; simp, rfl, rfl⟩, by simp only [ixS]; omega⟩
          · skip
            refine call0 (iValueText_d rows[i][k] hv.1 hv.2 (by omega)) ?_ ?_ ?_
            · decide
            · simp only [z0, z1, z2, z3, z4, z5, z6, z7, z8, z9, z10, z11, z12, z13, z14, z15, z16, z17, z18, t0, t1, t2, t3, t4, t5, t6, dcrs, rngs, reduceIte, Nat.reduceLT, Nat.reduceLeDiff, Nat.reduceEqDiff, Nat.reduceAdd, Nat.reduceMul, Nat.reduceSub, Nat.reduceMod, Nat.reduceDiv, Int.reduceLE, Int.reduceLT, Int.reduceEq, Int.reduceNe, Nat.reduceBEq, ne_eq, reduceCtorEq, not_false_eq_true, implies_true, h11, h17, Val.row]
            rintro r rfl
            simp only [z0, z1, z2, z3, z4, z5, z6, z7, z8, z9, z10, z11, z12, z13, z14, z15, z16, z17, z18, t0, t1, t2, t3, t4, t5, t6, dcrs, rngs, reduceIte, Nat.reduceLT, Nat.reduceLeDiff, Nat.reduceEqDiff, Nat.reduceAdd, Nat.reduceMul, Nat.reduceSub, Nat.reduceMod, Nat.reduceDiv, Int.reduceLE, Int.reduceLT, Int.reduceEq, Int.reduceNe, Nat.reduceBEq, ne_eq, reduceCtorEq, not_false_eq_true, implies_true, h11, h17, Val.row]
            refine CallQ.intro (WriteString_d cs (valT rows[i][k]) (by omega)) ?_ ?_ ?_
            · decide
            · simp only [z0, z1, z2, z3, z4, z5, z6, z7, z8, z9, z10, z11, z12, z13, z14, z15, z16, z17, z18, t0, t1, t2, t3, t4, t5, t6, dcrs, rngs, reduceIte, Nat.reduceLT, Nat.reduceLeDiff, Nat.reduceEqDiff, Nat.reduceAdd, Nat.reduceMul, Nat.reduceSub, Nat.reduceMod, Nat.reduceDiv, Int.reduceLE, Int.reduceLT, Int.reduceEq, Int.reduceNe, Nat.reduceBEq, ne_eq, reduceCtorEq, not_false_eq_true, implies_true, h11, h17]
            rintro r os ⟨rfl, rfl⟩ hos
            simp only [z0, z1, z2, z3, z4, z5, z6, z7, z8, z9, z10, z11, z12, z13, z14, z15, z16, z17, z18, t0, t1, t2, t3, t4, t5, t6, dcrs, rngs, reduceIte, Nat.reduceLT, Nat.reduceLeDiff, Nat.reduceEqDiff, Nat.reduceAdd, Nat.reduceMul, Nat.reduceSub, Nat.reduceMod, Nat.reduceDiv, Int.reduceLE, Int.reduceLT, Int.reduceEq, Int.reduceNe, Nat.reduceBEq, ne_eq, reduceCtorEq, not_false_eq_true, implies_true, h11, h17]
            have e2 := len_app (cs) (valT rows[i][k])
            rw [e2, wrap_id (n := (k : Int) + 1) (by omega) (by omega)]
            exact ⟨[(3, .str [.self, .s 10010027 (cs ++ (valT rows[i][k]).data.toList).length]), (10010027, .arr 5 (cs ++ (valT rows[i][k]).data.toList).length (bytesD (cs ++ (valT rows[i][k]).data.toList)) none)], none, SubO.cons rfl (SubO.cons rfl (SubO.nil _)), PoSub.none _, ⟨k + 1, _, none, rfl, by omega, by rw [rowL_step hklt, hcs, if_neg (by omega)]; simp, rfl, rfl⟩, by simp only [ixS]; omega⟩
        · have hke : k = rows[i].length := by omega
          subst hke
          rw [List.take_length] at hcs hcl hrl'
          try simp only [z0, z1, z2, z3, z4, z5, z6, z7, z8, z9, z10, z11, z12, z13, z14, z15, z16, z17, z18, t0, t1, t2, t3, t4, t5, t6, dcrs, rngs, reduceIte, Nat.reduceLT, Nat.reduceLeDiff, Nat.reduceEqDiff, Nat.reduceAdd, Nat.reduceMul, Nat.reduceSub, Nat.reduceMod, Nat.reduceDiv, Int.reduceLE, Int.reduceLT, Int.reduceEq, Int.reduceNe, Nat.reduceBEq, ne_eq, reduceCtorEq, not_false_eq_true, implies_true, h11, h17]
          refine CallQ.intro (WriteString_d cs ⟨#[10]⟩ (by show cs.length + 1 ≤ _; omega)) ?_ ?_ ?_
          · decide
          · simp only [z0, z1, z2, z3, z4, z5, z6, z7, z8, z9, z10, z11, z12, z13, z14, z15, z16, z17, z18, t0, t1, t2, t3, t4, t5, t6, dcrs, rngs, reduceIte, Nat.reduceLT, Nat.reduceLeDiff, Nat.reduceEqDiff, Nat.reduceAdd, Nat.reduceMul, Nat.reduceSub, Nat.reduceMod, Nat.reduceDiv, Int.reduceLE, Int.reduceLT, Int.reduceEq, Int.reduceNe, Nat.reduceBEq, ne_eq, reduceCtorEq, not_false_eq_true, implies_true, h11, h17]
          rintro r os ⟨rfl, rfl⟩ hos
          simp only [z0, z1, z2, z3, z4, z5, z6, z7, z8, z9, z10, z11, z12, z13, z14, z15, z16, z17, z18, t0, t1, t2, t3, t4, t5, t6, dcrs, rngs, reduceIte, Nat.reduceLT, Nat.reduceLeDiff, Nat.reduceEqDiff, Nat.reduceAdd, Nat.reduceMul, Nat.reduceSub, Nat.reduceMod, Nat.reduceDiv, Int.reduceLE, Int.reduceLT, Int.reduceEq, Int.reduceNe, Nat.reduceBEq, ne_eq, reduceCtorEq, not_false_eq_true, implies_true, h11, h17]
          have e2 : cs.length + (⟨#[10]⟩ : ByteArray).size = (cs ++ [10]).length := by rw [List.length_append]; rfl
          rw [e2, wrap_id (n := (i : Int) + 1) (by omega) (by omega)]
          exact ⟨[(3, .str [.self, .s 10010029 (cs ++ [10]).length]), (10010029, .arr 5 (cs ++ [10]).length (bytesD (cs ++ [10])) none)], none, SubO.cons rfl (SubO.cons rfl (SubO.nil _)), PoSub.none _, ⟨i + 1, _, none, rfl, by omega, by rw [rowsL_step hlt, hcs, hbs], rfl, rfl⟩, by simp only [ixS]; omega⟩
    · have hie : i = rows.length := by omega
      subst hie
      rw [List.take_length] at hbs hbl
      try simp only [z0, z1, z2, z3, z4, z5, z6, z7, z8, z9, z10, z11, z12, z13, z14, z15, z16, z17, z18, t0, t1, t2, t3, t4, t5, t6, dcrs, rngs, reduceIte, Nat.reduceLT, Nat.reduceLeDiff, Nat.reduceEqDiff, Nat.reduceAdd, Nat.reduceMul, Nat.reduceSub, Nat.reduceMod, Nat.reduceDiv, Int.reduceLE, Int.reduceLT, Int.reduceEq, Int.reduceNe, Nat.reduceBEq, ne_eq, reduceCtorEq, not_false_eq_true, implies_true, h11]
      refine CallQ.intro (String_d bs (by omega)) ?_ ?_ ?_
      · decide
      · simp only [z0, z1, z2, z3, z4, z5, z6, z7, z8, z9, z10, z11, z12, z13, z14, z15, z16, z17, z18, t0, t1, t2, t3, t4, t5, t6, dcrs, rngs, reduceIte, Nat.reduceLT, Nat.reduceLeDiff, Nat.reduceEqDiff, Nat.reduceAdd, Nat.reduceMul, Nat.reduceSub, Nat.reduceMod, Nat.reduceDiv, Int.reduceLE, Int.reduceLT, Int.reduceEq, Int.reduceNe, Nat.reduceBEq, ne_eq, reduceCtorEq, not_false_eq_true, implies_true, h11]
      rintro r os ⟨rfl, rfl⟩ hos
      simp only [z0, z1, z2, z3, z4, z5, z6, z7, z8, z9, z10, z11, z12, z13, z14, z15, z16, z17, z18, t0, t1, t2, t3, t4, t5, t6, dcrs, rngs, reduceIte, Nat.reduceLT, Nat.reduceLeDiff, Nat.reduceEqDiff, Nat.reduceAdd, Nat.reduceMul, Nat.reduceSub, Nat.reduceMod, Nat.reduceDiv, Int.reduceLE, Int.reduceLT, Int.reduceEq, Int.reduceNe, Nat.reduceBEq, ne_eq, reduceCtorEq, not_false_eq_true, implies_true, h11]
      exact ⟨_, _, vsE (by rw [hbs]; rfl), end0 rfl⟩

end Go.Proofs.YtlbbflchkkcdhaaDoor

set_option linter.unusedVariables false
set_option linter.unusedSimpArgs false
set_option maxRecDepth 8000
namespace Go.Proofs.YtlbbflchkkcdhaaDoor
open Go Go.Dv
open Go.Vc (D shrI xorI andI and255)

structure okRes (a : Res) : Prop where
  e0 : -9223372036854775808 ≤ a.err
  e1 : a.err ≤ 9223372036854775807
  c0 : -9223372036854775808 ≤ a.count
  c1 : a.count ≤ 9223372036854775807
  rows : okRows a.rows
def resT (a : Res) : ByteArray :=
  if ¬ a.f.code = 0 then ⟨#[110, 111, 32]⟩ ++ faT a.f else if ¬ a.err = 0 then ⟨#[101, 114, 114, 111, 114, 32]⟩ ++ itoaB a.err else rowsB a.rows ++ ⟨#[100, 111, 110, 101, 32]⟩ ++ itoaB a.count
theorem faT_size (f : Fa) : (faT f).size ≤ 60 := by
  have := fcode_size f.code
  have := nameT_size f.name
  unfold faT
  split
  · omega
  · rw [size_app, size_app, sp_size]; omega
theorem ResultText_d (a : Res) (h : okRes a) (hsz : szRes a ≤ 1048576) : Cl Tryd.prog 5 [.ag (csOf a.row)] [] fun r _ => r = vs (resT a) := by
  have hr0 : szRows a.rows ≤ 1048576 := by unfold szRes at hsz; omega
  have hn0 : a.f.name.size ≤ 1048576 := by unfold szRes at hsz; omega
  have hrl := rowsL_len h.rows a.rows.length (Nat.le_refl _)
  rw [List.take_length] at hrl
  have hrb : (rowsB a.rows).size ≤ 21 * szRows a.rows := by show (List.toArray _).size ≤ _; simpa using hrl
  have hcb := itoaB_size h.c0 h.c1
  have heb := itoaB_size h.e0 h.e1
  have hfb := faT_size a.f
  rw [Res.row]
  refine cl_of_d follows_mixed false Tryd.func5 rfl (by kernel_rfl) ?_
  simp only [Tryd.f5, z0, z1, z2, z3, z4, z5, z6, z7, z8, z9, z10, z11, z12, z13, z14, z15, z16, z17, z18, t0, t1, t2, t3, t4, t5, t6, dcrs, rngs, reduceIte, Nat.reduceLT, Nat.reduceLeDiff, Nat.reduceEqDiff, Nat.reduceAdd, Nat.reduceMul, Nat.reduceSub, Nat.reduceMod, Nat.reduceDiv, Int.reduceLE, Int.reduceLT, Int.reduceEq, Int.reduceNe, Nat.reduceBEq, ne_eq, reduceCtorEq, not_false_eq_true, implies_true]
  refine And.intro (fun hne => ?_) (fun heq => ?_)
  · have hne' : ¬ a.f.code = 0 := by simpa only [Bool.not_eq_true', decide_eq_false_iff_not] using hne
    refine call0 (RFaultText_d a.f hn0) ?_ ?_ ?_
    · decide
    · simp only [z0, z1, z2, z3, z4, z5, z6, z7, z8, z9, z10, z11, z12, z13, z14, z15, z16, z17, z18, t0, t1, t2, t3, t4, t5, t6, dcrs, rngs, reduceIte, Nat.reduceLT, Nat.reduceLeDiff, Nat.reduceEqDiff, Nat.reduceAdd, Nat.reduceMul, Nat.reduceSub, Nat.reduceMod, Nat.reduceDiv, Int.reduceLE, Int.reduceLT, Int.reduceEq, Int.reduceNe, Nat.reduceBEq, ne_eq, reduceCtorEq, not_false_eq_true, implies_true, Fa.row]
    rintro r rfl
    simp only [z0, z1, z2, z3, z4, z5, z6, z7, z8, z9, z10, z11, z12, z13, z14, z15, z16, z17, z18, t0, t1, t2, t3, t4, t5, t6, dcrs, rngs, reduceIte, Nat.reduceLT, Nat.reduceLeDiff, Nat.reduceEqDiff, Nat.reduceAdd, Nat.reduceMul, Nat.reduceSub, Nat.reduceMod, Nat.reduceDiv, Int.reduceLE, Int.reduceLT, Int.reduceEq, Int.reduceNe, Nat.reduceBEq, ne_eq, reduceCtorEq, not_false_eq_true, implies_true, Fa.row]
    rw [pu_sadd (by show 3 + _ ≤ _; omega)]
    simp only [z0, z1, z2, z3, z4, z5, z6, z7, z8, z9, z10, z11, z12, z13, z14, z15, z16, z17, z18, t0, t1, t2, t3, t4, t5, t6, dcrs, rngs, reduceIte, Nat.reduceLT, Nat.reduceLeDiff, Nat.reduceEqDiff, Nat.reduceAdd, Nat.reduceMul, Nat.reduceSub, Nat.reduceMod, Nat.reduceDiv, Int.reduceLE, Int.reduceLT, Int.reduceEq, Int.reduceNe, Nat.reduceBEq, ne_eq, reduceCtorEq, not_false_eq_true, implies_true]
    exact ⟨_, _, vsE (by rw [resT, if_pos hne']), end0 rfl⟩
  · have heq' : ¬ ¬ a.f.code = 0 := by simpa only [Bool.not_eq_false', decide_eq_true_eq, Decidable.not_not] using heq
    try simp only [z0, z1, z2, z3, z4, z5, z6, z7, z8, z9, z10, z11, z12, z13, z14, z15, z16, z17, z18, t0, t1, t2, t3, t4, t5, t6, dcrs, rngs, reduceIte, Nat.reduceLT, Nat.reduceLeDiff, Nat.reduceEqDiff, Nat.reduceAdd, Nat.reduceMul, Nat.reduceSub, Nat.reduceMod, Nat.reduceDiv, Int.reduceLE, Int.reduceLT, Int.reduceEq, Int.reduceNe, Nat.reduceBEq, ne_eq, reduceCtorEq, not_false_eq_true, implies_true]
    refine And.intro (fun hne => ?_) (fun heq => ?_)
    · have hne2 : ¬ a.err = 0 := by simpa only [Bool.not_eq_true', decide_eq_false_iff_not] using hne
      refine call0 (Digits_d a.err h.e0 h.e1) ?_ ?_ ?_
      · decide
      · simp only [z0, z1, z2, z3, z4, z5, z6, z7, z8, z9, z10, z11, z12, z13, z14, z15, z16, z17, z18, t0, t1, t2, t3, t4, t5, t6, dcrs, rngs, reduceIte, Nat.reduceLT, Nat.reduceLeDiff, Nat.reduceEqDiff, Nat.reduceAdd, Nat.reduceMul, Nat.reduceSub, Nat.reduceMod, Nat.reduceDiv, Int.reduceLE, Int.reduceLT, Int.reduceEq, Int.reduceNe, Nat.reduceBEq, ne_eq, reduceCtorEq, not_false_eq_true, implies_true, Fa.row]
      rintro r rfl
      simp only [z0, z1, z2, z3, z4, z5, z6, z7, z8, z9, z10, z11, z12, z13, z14, z15, z16, z17, z18, t0, t1, t2, t3, t4, t5, t6, dcrs, rngs, reduceIte, Nat.reduceLT, Nat.reduceLeDiff, Nat.reduceEqDiff, Nat.reduceAdd, Nat.reduceMul, Nat.reduceSub, Nat.reduceMod, Nat.reduceDiv, Int.reduceLE, Int.reduceLT, Int.reduceEq, Int.reduceNe, Nat.reduceBEq, ne_eq, reduceCtorEq, not_false_eq_true, implies_true, Fa.row]
      rw [pu_sadd (by show 6 + _ ≤ _; omega)]
      simp only [z0, z1, z2, z3, z4, z5, z6, z7, z8, z9, z10, z11, z12, z13, z14, z15, z16, z17, z18, t0, t1, t2, t3, t4, t5, t6, dcrs, rngs, reduceIte, Nat.reduceLT, Nat.reduceLeDiff, Nat.reduceEqDiff, Nat.reduceAdd, Nat.reduceMul, Nat.reduceSub, Nat.reduceMod, Nat.reduceDiv, Int.reduceLE, Int.reduceLT, Int.reduceEq, Int.reduceNe, Nat.reduceBEq, ne_eq, reduceCtorEq, not_false_eq_true, implies_true]
      exact ⟨_, _, vsE (by rw [resT, if_neg heq', if_pos hne2]), end0 rfl⟩
    · have heq2 : ¬ ¬ a.err = 0 := by simpa only [Bool.not_eq_false', decide_eq_true_eq, Decidable.not_not] using heq
      try simp only [z0, z1, z2, z3, z4, z5, z6, z7, z8, z9, z10, z11, z12, z13, z14, z15, z16, z17, z18, t0, t1, t2, t3, t4, t5, t6, dcrs, rngs, reduceIte, Nat.reduceLT, Nat.reduceLeDiff, Nat.reduceEqDiff, Nat.reduceAdd, Nat.reduceMul, Nat.reduceSub, Nat.reduceMod, Nat.reduceDiv, Int.reduceLE, Int.reduceLT, Int.reduceEq, Int.reduceNe, Nat.reduceBEq, ne_eq, reduceCtorEq, not_false_eq_true, implies_true]
      refine dDrawn.intro [] (pln [0, 2, 8, 10, 5, 6, 13, 14, 16]) (by kernel_rfl) ?_
      simp only [z0, z1, z2, z3, z4, z5, z6, z7, z8, z9, z10, z11, z12, z13, z14, z15, z16, z17, z18, t0, t1, t2, t3, t4, t5, t6, dcrs, rngs, reduceIte, Nat.reduceLT, Nat.reduceLeDiff, Nat.reduceEqDiff, Nat.reduceAdd, Nat.reduceMul, Nat.reduceSub, Nat.reduceMod, Nat.reduceDiv, Int.reduceLE, Int.reduceLT, Int.reduceEq, Int.reduceNe, Nat.reduceBEq, ne_eq, reduceCtorEq, not_false_eq_true, implies_true]
      refine call0 (RowsText_d a.rows h.rows hr0) ?_ ?_ ?_
      · decide
      · simp only [z0, z1, z2, z3, z4, z5, z6, z7, z8, z9, z10, z11, z12, z13, z14, z15, z16, z17, z18, t0, t1, t2, t3, t4, t5, t6, dcrs, rngs, reduceIte, Nat.reduceLT, Nat.reduceLeDiff, Nat.reduceEqDiff, Nat.reduceAdd, Nat.reduceMul, Nat.reduceSub, Nat.reduceMod, Nat.reduceDiv, Int.reduceLE, Int.reduceLT, Int.reduceEq, Int.reduceNe, Nat.reduceBEq, ne_eq, reduceCtorEq, not_false_eq_true, implies_true, Fa.row]
      rintro r rfl
      simp only [z0, z1, z2, z3, z4, z5, z6, z7, z8, z9, z10, z11, z12, z13, z14, z15, z16, z17, z18, t0, t1, t2, t3, t4, t5, t6, dcrs, rngs, reduceIte, Nat.reduceLT, Nat.reduceLeDiff, Nat.reduceEqDiff, Nat.reduceAdd, Nat.reduceMul, Nat.reduceSub, Nat.reduceMod, Nat.reduceDiv, Int.reduceLE, Int.reduceLT, Int.reduceEq, Int.reduceNe, Nat.reduceBEq, ne_eq, reduceCtorEq, not_false_eq_true, implies_true, Fa.row]
      rw [pu_sadd (by show _ + 5 ≤ _; omega)]
      try simp only [z0, z1, z2, z3, z4, z5, z6, z7, z8, z9, z10, z11, z12, z13, z14, z15, z16, z17, z18, t0, t1, t2, t3, t4, t5, t6, dcrs, rngs, reduceIte, Nat.reduceLT, Nat.reduceLeDiff, Nat.reduceEqDiff, Nat.reduceAdd, Nat.reduceMul, Nat.reduceSub, Nat.reduceMod, Nat.reduceDiv, Int.reduceLE, Int.reduceLT, Int.reduceEq, Int.reduceNe, Nat.reduceBEq, ne_eq, reduceCtorEq, not_false_eq_true, implies_true]
      refine call0 (Digits_d a.count h.c0 h.c1) ?_ ?_ ?_
      · decide
      · simp only [z0, z1, z2, z3, z4, z5, z6, z7, z8, z9, z10, z11, z12, z13, z14, z15, z16, z17, z18, t0, t1, t2, t3, t4, t5, t6, dcrs, rngs, reduceIte, Nat.reduceLT, Nat.reduceLeDiff, Nat.reduceEqDiff, Nat.reduceAdd, Nat.reduceMul, Nat.reduceSub, Nat.reduceMod, Nat.reduceDiv, Int.reduceLE, Int.reduceLT, Int.reduceEq, Int.reduceNe, Nat.reduceBEq, ne_eq, reduceCtorEq, not_false_eq_true, implies_true, Fa.row]
      rintro r rfl
      simp only [z0, z1, z2, z3, z4, z5, z6, z7, z8, z9, z10, z11, z12, z13, z14, z15, z16, z17, z18, t0, t1, t2, t3, t4, t5, t6, dcrs, rngs, reduceIte, Nat.reduceLT, Nat.reduceLeDiff, Nat.reduceEqDiff, Nat.reduceAdd, Nat.reduceMul, Nat.reduceSub, Nat.reduceMod, Nat.reduceDiv, Int.reduceLE, Int.reduceLT, Int.reduceEq, Int.reduceNe, Nat.reduceBEq, ne_eq, reduceCtorEq, not_false_eq_true, implies_true, Fa.row]
      rw [pu_sadd (by rw [size_app]; show _ + 5 + _ ≤ _; omega)]
      try simp only [z0, z1, z2, z3, z4, z5, z6, z7, z8, z9, z10, z11, z12, z13, z14, z15, z16, z17, z18, t0, t1, t2, t3, t4, t5, t6, dcrs, rngs, reduceIte, Nat.reduceLT, Nat.reduceLeDiff, Nat.reduceEqDiff, Nat.reduceAdd, Nat.reduceMul, Nat.reduceSub, Nat.reduceMod, Nat.reduceDiv, Int.reduceLE, Int.reduceLT, Int.reduceEq, Int.reduceNe, Nat.reduceBEq, ne_eq, reduceCtorEq, not_false_eq_true, implies_true]
      exact ⟨_, _, vsE (by rw [resT, if_neg heq', if_neg heq2]), end0 rfl⟩
theorem iResultText_d (a : Res) (h : okRes a) (hsz : szRes a ≤ 1048576) : Cl Tryd.prog 7 [.ag (csOf a.row)] [] fun r _ => r = vs (resT a) := by
  have hr0 : szRows a.rows ≤ 1048576 := by unfold szRes at hsz; omega
  have hn0 : a.f.name.size ≤ 1048576 := by unfold szRes at hsz; omega
  have hrl := rowsL_len h.rows a.rows.length (Nat.le_refl _)
  rw [List.take_length] at hrl
  have hrb : (rowsB a.rows).size ≤ 21 * szRows a.rows := by show (List.toArray _).size ≤ _; simpa using hrl
  have hcb := itoaB_size h.c0 h.c1
  have heb := itoaB_size h.e0 h.e1
  have hfb := faT_size a.f
  rw [Res.row]
  refine cl_of_d follows_mixed false Tryd.func7 rfl (by kernel_rfl) ?_
  simp only [Tryd.f7, z0, z1, z2, z3, z4, z5, z6, z7, z8, z9, z10, z11, z12, z13, z14, z15, z16, z17, z18, t0, t1, t2, t3, t4, t5, t6, dcrs, rngs, reduceIte, Nat.reduceLT, Nat.reduceLeDiff, Nat.reduceEqDiff, Nat.reduceAdd, Nat.reduceMul, Nat.reduceSub, Nat.reduceMod, Nat.reduceDiv, Int.reduceLE, Int.reduceLT, Int.reduceEq, Int.reduceNe, Nat.reduceBEq, ne_eq, reduceCtorEq, not_false_eq_true, implies_true]
  refine And.intro (fun hne => ?_) (fun heq => ?_)
  · have hne' : ¬ a.f.code = 0 := by simpa only [Bool.not_eq_true', decide_eq_false_iff_not] using hne
    refine call0 (iRFaultText_d a.f hn0) ?_ ?_ ?_
    · decide
    · simp only [z0, z1, z2, z3, z4, z5, z6, z7, z8, z9, z10, z11, z12, z13, z14, z15, z16, z17, z18, t0, t1, t2, t3, t4, t5, t6, dcrs, rngs, reduceIte, Nat.reduceLT, Nat.reduceLeDiff, Nat.reduceEqDiff, Nat.reduceAdd, Nat.reduceMul, Nat.reduceSub, Nat.reduceMod, Nat.reduceDiv, Int.reduceLE, Int.reduceLT, Int.reduceEq, Int.reduceNe, Nat.reduceBEq, ne_eq, reduceCtorEq, not_false_eq_true, implies_true, Fa.row]
    rintro r rfl
    simp only [z0, z1, z2, z3, z4, z5, z6, z7, z8, z9, z10, z11, z12, z13, z14, z15, z16, z17, z18, t0, t1, t2, t3, t4, t5, t6, dcrs, rngs, reduceIte, Nat.reduceLT, Nat.reduceLeDiff, Nat.reduceEqDiff, Nat.reduceAdd, Nat.reduceMul, Nat.reduceSub, Nat.reduceMod, Nat.reduceDiv, Int.reduceLE, Int.reduceLT, Int.reduceEq, Int.reduceNe, Nat.reduceBEq, ne_eq, reduceCtorEq, not_false_eq_true, implies_true, Fa.row]
    rw [pu_sadd (by show 3 + _ ≤ _; omega)]
    simp only [z0, z1, z2, z3, z4, z5, z6, z7, z8, z9, z10, z11, z12, z13, z14, z15, z16, z17, z18, t0, t1, t2, t3, t4, t5, t6, dcrs, rngs, reduceIte, Nat.reduceLT, Nat.reduceLeDiff, Nat.reduceEqDiff, Nat.reduceAdd, Nat.reduceMul, Nat.reduceSub, Nat.reduceMod, Nat.reduceDiv, Int.reduceLE, Int.reduceLT, Int.reduceEq, Int.reduceNe, Nat.reduceBEq, ne_eq, reduceCtorEq, not_false_eq_true, implies_true]
    exact ⟨_, _, vsE (by rw [resT, if_pos hne']), end0 rfl⟩
  · have heq' : ¬ ¬ a.f.code = 0 := by simpa only [Bool.not_eq_false', decide_eq_true_eq, Decidable.not_not] using heq
    try simp only [z0, z1, z2, z3, z4, z5, z6, z7, z8, z9, z10, z11, z12, z13, z14, z15, z16, z17, z18, t0, t1, t2, t3, t4, t5, t6, dcrs, rngs, reduceIte, Nat.reduceLT, Nat.reduceLeDiff, Nat.reduceEqDiff, Nat.reduceAdd, Nat.reduceMul, Nat.reduceSub, Nat.reduceMod, Nat.reduceDiv, Int.reduceLE, Int.reduceLT, Int.reduceEq, Int.reduceNe, Nat.reduceBEq, ne_eq, reduceCtorEq, not_false_eq_true, implies_true]
    refine And.intro (fun hne => ?_) (fun heq => ?_)
    · have hne2 : ¬ a.err = 0 := by simpa only [Bool.not_eq_true', decide_eq_false_iff_not] using hne
      refine call0 (iDigits_d a.err h.e0 h.e1) ?_ ?_ ?_
      · decide
      · simp only [z0, z1, z2, z3, z4, z5, z6, z7, z8, z9, z10, z11, z12, z13, z14, z15, z16, z17, z18, t0, t1, t2, t3, t4, t5, t6, dcrs, rngs, reduceIte, Nat.reduceLT, Nat.reduceLeDiff, Nat.reduceEqDiff, Nat.reduceAdd, Nat.reduceMul, Nat.reduceSub, Nat.reduceMod, Nat.reduceDiv, Int.reduceLE, Int.reduceLT, Int.reduceEq, Int.reduceNe, Nat.reduceBEq, ne_eq, reduceCtorEq, not_false_eq_true, implies_true, Fa.row]
      rintro r rfl
      simp only [z0, z1, z2, z3, z4, z5, z6, z7, z8, z9, z10, z11, z12, z13, z14, z15, z16, z17, z18, t0, t1, t2, t3, t4, t5, t6, dcrs, rngs, reduceIte, Nat.reduceLT, Nat.reduceLeDiff, Nat.reduceEqDiff, Nat.reduceAdd, Nat.reduceMul, Nat.reduceSub, Nat.reduceMod, Nat.reduceDiv, Int.reduceLE, Int.reduceLT, Int.reduceEq, Int.reduceNe, Nat.reduceBEq, ne_eq, reduceCtorEq, not_false_eq_true, implies_true, Fa.row]
      rw [pu_sadd (by show 6 + _ ≤ _; omega)]
      simp only [z0, z1, z2, z3, z4, z5, z6, z7, z8, z9, z10, z11, z12, z13, z14, z15, z16, z17, z18, t0, t1, t2, t3, t4, t5, t6, dcrs, rngs, reduceIte, Nat.reduceLT, Nat.reduceLeDiff, Nat.reduceEqDiff, Nat.reduceAdd, Nat.reduceMul, Nat.reduceSub, Nat.reduceMod, Nat.reduceDiv, Int.reduceLE, Int.reduceLT, Int.reduceEq, Int.reduceNe, Nat.reduceBEq, ne_eq, reduceCtorEq, not_false_eq_true, implies_true]
      exact ⟨_, _, vsE (by rw [resT, if_neg heq', if_pos hne2]), end0 rfl⟩
    · have heq2 : ¬ ¬ a.err = 0 := by simpa only [Bool.not_eq_false', decide_eq_true_eq, Decidable.not_not] using heq
      try simp only [z0, z1, z2, z3, z4, z5, z6, z7, z8, z9, z10, z11, z12, z13, z14, z15, z16, z17, z18, t0, t1, t2, t3, t4, t5, t6, dcrs, rngs, reduceIte, Nat.reduceLT, Nat.reduceLeDiff, Nat.reduceEqDiff, Nat.reduceAdd, Nat.reduceMul, Nat.reduceSub, Nat.reduceMod, Nat.reduceDiv, Int.reduceLE, Int.reduceLT, Int.reduceEq, Int.reduceNe, Nat.reduceBEq, ne_eq, reduceCtorEq, not_false_eq_true, implies_true]
      refine dDrawn.intro [] (pln [0, 2, 8, 10, 5, 6, 13, 14, 16]) (by kernel_rfl) ?_
      simp only [z0, z1, z2, z3, z4, z5, z6, z7, z8, z9, z10, z11, z12, z13, z14, z15, z16, z17, z18, t0, t1, t2, t3, t4, t5, t6, dcrs, rngs, reduceIte, Nat.reduceLT, Nat.reduceLeDiff, Nat.reduceEqDiff, Nat.reduceAdd, Nat.reduceMul, Nat.reduceSub, Nat.reduceMod, Nat.reduceDiv, Int.reduceLE, Int.reduceLT, Int.reduceEq, Int.reduceNe, Nat.reduceBEq, ne_eq, reduceCtorEq, not_false_eq_true, implies_true]
      refine call0 (iRowsText_d a.rows h.rows hr0) ?_ ?_ ?_
      · decide
      · simp only [z0, z1, z2, z3, z4, z5, z6, z7, z8, z9, z10, z11, z12, z13, z14, z15, z16, z17, z18, t0, t1, t2, t3, t4, t5, t6, dcrs, rngs, reduceIte, Nat.reduceLT, Nat.reduceLeDiff, Nat.reduceEqDiff, Nat.reduceAdd, Nat.reduceMul, Nat.reduceSub, Nat.reduceMod, Nat.reduceDiv, Int.reduceLE, Int.reduceLT, Int.reduceEq, Int.reduceNe, Nat.reduceBEq, ne_eq, reduceCtorEq, not_false_eq_true, implies_true, Fa.row]
      rintro r rfl
      simp only [z0, z1, z2, z3, z4, z5, z6, z7, z8, z9, z10, z11, z12, z13, z14, z15, z16, z17, z18, t0, t1, t2, t3, t4, t5, t6, dcrs, rngs, reduceIte, Nat.reduceLT, Nat.reduceLeDiff, Nat.reduceEqDiff, Nat.reduceAdd, Nat.reduceMul, Nat.reduceSub, Nat.reduceMod, Nat.reduceDiv, Int.reduceLE, Int.reduceLT, Int.reduceEq, Int.reduceNe, Nat.reduceBEq, ne_eq, reduceCtorEq, not_false_eq_true, implies_true, Fa.row]
      rw [pu_sadd (by show _ + 5 ≤ _; omega)]
      try simp only [z0, z1, z2, z3, z4, z5, z6, z7, z8, z9, z10, z11, z12, z13, z14, z15, z16, z17, z18, t0, t1, t2, t3, t4, t5, t6, dcrs, rngs, reduceIte, Nat.reduceLT, Nat.reduceLeDiff, Nat.reduceEqDiff, Nat.reduceAdd, Nat.reduceMul, Nat.reduceSub, Nat.reduceMod, Nat.reduceDiv, Int.reduceLE, Int.reduceLT, Int.reduceEq, Int.reduceNe, Nat.reduceBEq, ne_eq, reduceCtorEq, not_false_eq_true, implies_true]
      refine call0 (iDigits_d a.count h.c0 h.c1) ?_ ?_ ?_
      · decide
      · simp only [z0, z1, z2, z3, z4, z5, z6, z7, z8, z9, z10, z11, z12, z13, z14, z15, z16, z17, z18, t0, t1, t2, t3, t4, t5, t6, dcrs, rngs, reduceIte, Nat.reduceLT, Nat.reduceLeDiff, Nat.reduceEqDiff, Nat.reduceAdd, Nat.reduceMul, Nat.reduceSub, Nat.reduceMod, Nat.reduceDiv, Int.reduceLE, Int.reduceLT, Int.reduceEq, Int.reduceNe, Nat.reduceBEq, ne_eq, reduceCtorEq, not_false_eq_true, implies_true, Fa.row]
      rintro r rfl
      simp only [z0, z1, z2, z3, z4, z5, z6, z7, z8, z9, z10, z11, z12, z13, z14, z15, z16, z17, z18, t0, t1, t2, t3, t4, t5, t6, dcrs, rngs, reduceIte, Nat.reduceLT, Nat.reduceLeDiff, Nat.reduceEqDiff, Nat.reduceAdd, Nat.reduceMul, Nat.reduceSub, Nat.reduceMod, Nat.reduceDiv, Int.reduceLE, Int.reduceLT, Int.reduceEq, Int.reduceNe, Nat.reduceBEq, ne_eq, reduceCtorEq, not_false_eq_true, implies_true, Fa.row]
      rw [pu_sadd (by rw [size_app]; show _ + 5 + _ ≤ _; omega)]
      try simp only [z0, z1, z2, z3, z4, z5, z6, z7, z8, z9, z10, z11, z12, z13, z14, z15, z16, z17, z18, t0, t1, t2, t3, t4, t5, t6, dcrs, rngs, reduceIte, Nat.reduceLT, Nat.reduceLeDiff, Nat.reduceEqDiff, Nat.reduceAdd, Nat.reduceMul, Nat.reduceSub, Nat.reduceMod, Nat.reduceDiv, Int.reduceLE, Int.reduceLT, Int.reduceEq, Int.reduceNe, Nat.reduceBEq, ne_eq, reduceCtorEq, not_false_eq_true, implies_true]
      exact ⟨_, _, vsE (by rw [resT, if_neg heq', if_neg heq2]), end0 rfl⟩

end Go.Proofs.YtlbbflchkkcdhaaDoor

set_option linter.unusedVariables false
set_option linter.unusedSimpArgs false
set_option maxRecDepth 8000
namespace Go.Proofs.YtlbbflchkkcdhaaDoor
open Go Go.Dv
open Go.Vc (D shrI xorI andI and255)

theorem law_d (a : Res) (h : okRes a) : Cl Tryd.prog 3 [.ag (csOf a.row)] [] fun r _ => r = vb true := by
  rw [Res.row]
  refine cl_of_d follows_mixed false Tryd.func3 rfl (by kernel_rfl) ?_
  simp only [Tryd.f3, z0, z1, z2, z3, z4, z5, z6, z7, z8, z9, z10, z11, z12, z13, z14, z15, z16, z17, z18, t0, t1, t2, t3, t4, t5, t6, dcrs, rngs, reduceIte, Nat.reduceLT, Nat.reduceLeDiff, Nat.reduceEqDiff, Nat.reduceAdd, Nat.reduceMul, Nat.reduceSub, Nat.reduceMod, Nat.reduceDiv, Int.reduceLE, Int.reduceLT, Int.reduceEq, Int.reduceNe, Nat.reduceBEq, ne_eq, reduceCtorEq, not_false_eq_true, implies_true]
  refine call0 (szResult_d a 1048576 (by omega) (by omega)) ?_ ?_ ?_
  · decide
  · simp only [z0, z1, z2, z3, z4, z5, z6, z7, z8, z9, z10, z11, z12, z13, z14, z15, z16, z17, z18, t0, t1, t2, t3, t4, t5, t6, dcrs, rngs, reduceIte, Nat.reduceLT, Nat.reduceLeDiff, Nat.reduceEqDiff, Nat.reduceAdd, Nat.reduceMul, Nat.reduceSub, Nat.reduceMod, Nat.reduceDiv, Int.reduceLE, Int.reduceLT, Int.reduceEq, Int.reduceNe, Nat.reduceBEq, ne_eq, reduceCtorEq, not_false_eq_true, implies_true, Res.row]
  rintro r rfl
  simp only [z0, z1, z2, z3, z4, z5, z6, z7, z8, z9, z10, z11, z12, z13, z14, z15, z16, z17, z18, t0, t1, t2, t3, t4, t5, t6, dcrs, rngs, reduceIte, Nat.reduceLT, Nat.reduceLeDiff, Nat.reduceEqDiff, Nat.reduceAdd, Nat.reduceMul, Nat.reduceSub, Nat.reduceMod, Nat.reduceDiv, Int.reduceLE, Int.reduceLT, Int.reduceEq, Int.reduceNe, Nat.reduceBEq, ne_eq, reduceCtorEq, not_false_eq_true, implies_true, Res.row]
  refine And.intro (fun hneg => ?_) (fun hpos => ?_)
  · exact ⟨_, _, rfl, end0 rfl⟩
  · have hsz : szRes a ≤ 1048576 := by
      unfold subL at hpos
      split at hpos
      · omega
      · exact absurd (by decide) hpos
    have hl : a.rows.length ≤ 1048576 := by unfold szRes szRows at hsz; omega
    have hll : ∀ l ∈ a.rows, l.length ≤ 1048576 := fun l hm => by
      have := szRows_mem hm
      unfold szVals at this
      unfold szRes at hsz; omega
    try simp only [z0, z1, z2, z3, z4, z5, z6, z7, z8, z9, z10, z11, z12, z13, z14, z15, z16, z17, z18, t0, t1, t2, t3, t4, t5, t6, dcrs, rngs, reduceIte, Nat.reduceLT, Nat.reduceLeDiff, Nat.reduceEqDiff, Nat.reduceAdd, Nat.reduceMul, Nat.reduceSub, Nat.reduceMod, Nat.reduceDiv, Int.reduceLE, Int.reduceLT, Int.reduceEq, Int.reduceNe, Nat.reduceBEq, ne_eq, reduceCtorEq, not_false_eq_true, implies_true]
    refine call0 (toResult_d a hl hll) ?_ ?_ ?_
    · decide
    · simp only [z0, z1, z2, z3, z4, z5, z6, z7, z8, z9, z10, z11, z12, z13, z14, z15, z16, z17, z18, t0, t1, t2, t3, t4, t5, t6, dcrs, rngs, reduceIte, Nat.reduceLT, Nat.reduceLeDiff, Nat.reduceEqDiff, Nat.reduceAdd, Nat.reduceMul, Nat.reduceSub, Nat.reduceMod, Nat.reduceDiv, Int.reduceLE, Int.reduceLT, Int.reduceEq, Int.reduceNe, Nat.reduceBEq, ne_eq, reduceCtorEq, not_false_eq_true, implies_true, Res.row]
    rintro r rfl
    simp only [z0, z1, z2, z3, z4, z5, z6, z7, z8, z9, z10, z11, z12, z13, z14, z15, z16, z17, z18, t0, t1, t2, t3, t4, t5, t6, dcrs, rngs, reduceIte, Nat.reduceLT, Nat.reduceLeDiff, Nat.reduceEqDiff, Nat.reduceAdd, Nat.reduceMul, Nat.reduceSub, Nat.reduceMod, Nat.reduceDiv, Int.reduceLE, Int.reduceLT, Int.reduceEq, Int.reduceNe, Nat.reduceBEq, ne_eq, reduceCtorEq, not_false_eq_true, implies_true, Res.row]
    refine call0 (ResultText_d a h hsz) ?_ ?_ ?_
    · decide
    · simp only [z0, z1, z2, z3, z4, z5, z6, z7, z8, z9, z10, z11, z12, z13, z14, z15, z16, z17, z18, t0, t1, t2, t3, t4, t5, t6, dcrs, rngs, reduceIte, Nat.reduceLT, Nat.reduceLeDiff, Nat.reduceEqDiff, Nat.reduceAdd, Nat.reduceMul, Nat.reduceSub, Nat.reduceMod, Nat.reduceDiv, Int.reduceLE, Int.reduceLT, Int.reduceEq, Int.reduceNe, Nat.reduceBEq, ne_eq, reduceCtorEq, not_false_eq_true, implies_true, Res.row]
    rintro r rfl
    simp only [z0, z1, z2, z3, z4, z5, z6, z7, z8, z9, z10, z11, z12, z13, z14, z15, z16, z17, z18, t0, t1, t2, t3, t4, t5, t6, dcrs, rngs, reduceIte, Nat.reduceLT, Nat.reduceLeDiff, Nat.reduceEqDiff, Nat.reduceAdd, Nat.reduceMul, Nat.reduceSub, Nat.reduceMod, Nat.reduceDiv, Int.reduceLE, Int.reduceLT, Int.reduceEq, Int.reduceNe, Nat.reduceBEq, ne_eq, reduceCtorEq, not_false_eq_true, implies_true, Res.row]
    refine call0 (toResult_d a hl hll) ?_ ?_ ?_
    · decide
    · simp only [z0, z1, z2, z3, z4, z5, z6, z7, z8, z9, z10, z11, z12, z13, z14, z15, z16, z17, z18, t0, t1, t2, t3, t4, t5, t6, dcrs, rngs, reduceIte, Nat.reduceLT, Nat.reduceLeDiff, Nat.reduceEqDiff, Nat.reduceAdd, Nat.reduceMul, Nat.reduceSub, Nat.reduceMod, Nat.reduceDiv, Int.reduceLE, Int.reduceLT, Int.reduceEq, Int.reduceNe, Nat.reduceBEq, ne_eq, reduceCtorEq, not_false_eq_true, implies_true, Res.row]
    rintro r rfl
    simp only [z0, z1, z2, z3, z4, z5, z6, z7, z8, z9, z10, z11, z12, z13, z14, z15, z16, z17, z18, t0, t1, t2, t3, t4, t5, t6, dcrs, rngs, reduceIte, Nat.reduceLT, Nat.reduceLeDiff, Nat.reduceEqDiff, Nat.reduceAdd, Nat.reduceMul, Nat.reduceSub, Nat.reduceMod, Nat.reduceDiv, Int.reduceLE, Int.reduceLT, Int.reduceEq, Int.reduceNe, Nat.reduceBEq, ne_eq, reduceCtorEq, not_false_eq_true, implies_true, Res.row]
    refine call0 (iResultText_d a h hsz) ?_ ?_ ?_
    · decide
    · simp only [z0, z1, z2, z3, z4, z5, z6, z7, z8, z9, z10, z11, z12, z13, z14, z15, z16, z17, z18, t0, t1, t2, t3, t4, t5, t6, dcrs, rngs, reduceIte, Nat.reduceLT, Nat.reduceLeDiff, Nat.reduceEqDiff, Nat.reduceAdd, Nat.reduceMul, Nat.reduceSub, Nat.reduceMod, Nat.reduceDiv, Int.reduceLE, Int.reduceLT, Int.reduceEq, Int.reduceNe, Nat.reduceBEq, ne_eq, reduceCtorEq, not_false_eq_true, implies_true, Res.row]
    rintro r rfl
    simp only [z0, z1, z2, z3, z4, z5, z6, z7, z8, z9, z10, z11, z12, z13, z14, z15, z16, z17, z18, t0, t1, t2, t3, t4, t5, t6, dcrs, rngs, reduceIte, Nat.reduceLT, Nat.reduceLeDiff, Nat.reduceEqDiff, Nat.reduceAdd, Nat.reduceMul, Nat.reduceSub, Nat.reduceMod, Nat.reduceDiv, Int.reduceLE, Int.reduceLT, Int.reduceEq, Int.reduceNe, Nat.reduceBEq, ne_eq, reduceCtorEq, not_false_eq_true, implies_true, Res.row]
    try simp only [z0, z1, z2, z3, z4, z5, z6, z7, z8, z9, z10, z11, z12, z13, z14, z15, z16, z17, z18, t0, t1, t2, t3, t4, t5, t6, dcrs, rngs, reduceIte, Nat.reduceLT, Nat.reduceLeDiff, Nat.reduceEqDiff, Nat.reduceAdd, Nat.reduceMul, Nat.reduceSub, Nat.reduceMod, Nat.reduceDiv, Int.reduceLE, Int.reduceLT, Int.reduceEq, Int.reduceNe, Nat.reduceBEq, ne_eq, reduceCtorEq, not_false_eq_true, implies_true]
    refine dDrawn.intro [] (pln [0, 2, 5, 7, 8]) (by kernel_rfl) ?_
    simp only [z0, z1, z2, z3, z4, z5, z6, z7, z8, z9, z10, z11, z12, z13, z14, z15, z16, z17, z18, t0, t1, t2, t3, t4, t5, t6, dcrs, rngs, reduceIte, Nat.reduceLT, Nat.reduceLeDiff, Nat.reduceEqDiff, Nat.reduceAdd, Nat.reduceMul, Nat.reduceSub, Nat.reduceMod, Nat.reduceDiv, Int.reduceLE, Int.reduceLT, Int.reduceEq, Int.reduceNe, Nat.reduceBEq, ne_eq, reduceCtorEq, not_false_eq_true, implies_true]
    refine call0 (toResult_d a hl hll) ?_ ?_ ?_
    · decide
    · simp only [z0, z1, z2, z3, z4, z5, z6, z7, z8, z9, z10, z11, z12, z13, z14, z15, z16, z17, z18, t0, t1, t2, t3, t4, t5, t6, dcrs, rngs, reduceIte, Nat.reduceLT, Nat.reduceLeDiff, Nat.reduceEqDiff, Nat.reduceAdd, Nat.reduceMul, Nat.reduceSub, Nat.reduceMod, Nat.reduceDiv, Int.reduceLE, Int.reduceLT, Int.reduceEq, Int.reduceNe, Nat.reduceBEq, ne_eq, reduceCtorEq, not_false_eq_true, implies_true, Res.row]
    rintro r rfl
    simp only [z0, z1, z2, z3, z4, z5, z6, z7, z8, z9, z10, z11, z12, z13, z14, z15, z16, z17, z18, t0, t1, t2, t3, t4, t5, t6, dcrs, rngs, reduceIte, Nat.reduceLT, Nat.reduceLeDiff, Nat.reduceEqDiff, Nat.reduceAdd, Nat.reduceMul, Nat.reduceSub, Nat.reduceMod, Nat.reduceDiv, Int.reduceLE, Int.reduceLT, Int.reduceEq, Int.reduceNe, Nat.reduceBEq, ne_eq, reduceCtorEq, not_false_eq_true, implies_true, Res.row]
    refine call0 (eqResult_d a) ?_ ?_ ?_
    · decide
    · simp only [z0, z1, z2, z3, z4, z5, z6, z7, z8, z9, z10, z11, z12, z13, z14, z15, z16, z17, z18, t0, t1, t2, t3, t4, t5, t6, dcrs, rngs, reduceIte, Nat.reduceLT, Nat.reduceLeDiff, Nat.reduceEqDiff, Nat.reduceAdd, Nat.reduceMul, Nat.reduceSub, Nat.reduceMod, Nat.reduceDiv, Int.reduceLE, Int.reduceLT, Int.reduceEq, Int.reduceNe, Nat.reduceBEq, ne_eq, reduceCtorEq, not_false_eq_true, implies_true, Res.row]
    rintro r rfl
    simp only [z0, z1, z2, z3, z4, z5, z6, z7, z8, z9, z10, z11, z12, z13, z14, z15, z16, z17, z18, t0, t1, t2, t3, t4, t5, t6, dcrs, rngs, reduceIte, Nat.reduceLT, Nat.reduceLeDiff, Nat.reduceEqDiff, Nat.reduceAdd, Nat.reduceMul, Nat.reduceSub, Nat.reduceMod, Nat.reduceDiv, Int.reduceLE, Int.reduceLT, Int.reduceEq, Int.reduceNe, Nat.reduceBEq, ne_eq, reduceCtorEq, not_false_eq_true, implies_true, Res.row]
    exact ⟨_, _, rfl, end0 rfl⟩

end Go.Proofs.YtlbbflchkkcdhaaDoor
