/-
  For all arguments, the program SameResult returns what the reference SameResult returns: the law FnExactSameResult returns true.
  Conditions: none.
-/
import Derived.Test.YtklligemdfnimaaResData
import Derived.Test.YtklligemdfnimaaRows
import Derived.ProofKit
import Derived.OpenShut
set_option linter.unusedVariables false
set_option linter.unusedSimpArgs false
set_option linter.unusedVariables false
set_option linter.unusedSimpArgs false
namespace Go.Proofs.Ytklligemdfnimaa
open Go Go.Vc
section
variable {H : Type} {enc : TypeId × Value → H} {W : World} {base : Nat} {sp : Nat → Bool} {held : Bool}
theorem cells3 : Try.prog.cellsOf 3 = 1 := by kernel_rfl
theorem cells9 : Try.prog.cellsOf 9 = 1 := by kernel_rfl
theorem cells46 : Try.prog.cellsOf 46 = 3 := by kernel_rfl
theorem cells25 : Try.prog.cellsOf 25 = 2 := by kernel_rfl
theorem cells26 : Try.prog.cellsOf 26 = 1 := by kernel_rfl
theorem cells28 : Try.prog.cellsOf 28 = 5 := by kernel_rfl
theorem cells135 : Try.prog.cellsOf 135 = 1 := by kernel_rfl
theorem read_val {n : Nat} {cs : List Value} {x : DataW H × List MemPlace} (h : DataW.trod enc Try.prog W base sp held n 46 cs = some x) : ∃ (y : Val) (F : List Nat), ValsF W y.row cs F := by
  obtain ⟨xs, k, _, _, hl, hlen, hf⟩ := DataW.trod_struct Try.underlying46 h
  rw [cells46] at hl
  obtain ⟨c0, r0, rfl, hl1⟩ := list_cons hl
  obtain ⟨c1, r1, rfl, hl2⟩ := list_cons hl1
  obtain ⟨c2, rfl⟩ := list_one hl2
  obtain ⟨x0, s0, rfl, hlen1⟩ := list_cons hlen
  obtain ⟨x1, s1, rfl, hlen2⟩ := list_cons hlen1
  obtain ⟨x2, rfl⟩ := list_one hlen2
  have h0 : DataW.trod enc Try.prog W base sp held k 3 (([c0, c1, c2].drop 0).take (Try.prog.cellsOf 3)) = some x0 := hf 0 _ rfl
  have h1 : DataW.trod enc Try.prog W base sp held k 3 (([c0, c1, c2].drop 1).take (Try.prog.cellsOf 3)) = some x1 := hf 1 _ rfl
  have h2 : DataW.trod enc Try.prog W base sp held k 9 (([c0, c1, c2].drop 2).take (Try.prog.cellsOf 9)) = some x2 := hf 2 _ rfl
  rw [cells3] at h0 h1
  rw [cells9] at h2
  obtain ⟨n0, e0, _⟩ := DataW.trod_int Try.underlying3 h0
  obtain ⟨n1, e1, _⟩ := DataW.trod_int Try.underlying3 h1
  obtain ⟨n2, e2, _, hb⟩ := DataW.trod_string Try.underlying9 h2
  simp at e0 e1 e2
  subst e0 e1 e2
  exact ⟨⟨n0, n1, n2⟩, [], Val.mk_vals W ⟨n0, n1, n2⟩ hb⟩
theorem read_vals {n : Nat} {cs : List Value} {x : DataW H × List MemPlace} (h : DataW.trod enc Try.prog W base sp held n 135 cs = some x) : ∃ (y : List Val) (F : List Nat), ValsF W (vrow y) cs F := by
  obtain ⟨ys, v, F, rfl, hc⟩ := read_slice Try.underlying135 cells46 (by decide) Val.row_len (fun n cs x h => read_val h) h
  exact ⟨ys, F, ValsF.single hc⟩
theorem read_valss {n : Nat} {cs : List Value} {x : DataW H × List MemPlace} (h : DataW.trod enc Try.prog W base sp held n 26 cs = some x) : ∃ (ys : List (List Val)) (v : Value) (F : List Nat), cs = [v] ∧ CellF W (.sl ys.length (ys.flatMap vrow)) v F :=
  read_slice Try.underlying26 cells135 (by decide) vrow_len (fun n cs x h => read_vals h) h
theorem read_fault {n : Nat} {cs : List Value} {x : DataW H × List MemPlace} (h : DataW.trod enc Try.prog W base sp held n 25 cs = some x) : ∃ (a : Int) (s : ByteArray), cs = [.int .i64 a, .string s] ∧ s.size ≤ maxLen := by
  obtain ⟨xs, k, _, _, hl, hlen, hf⟩ := DataW.trod_struct Try.underlying25 h
  rw [cells25] at hl
  obtain ⟨c0, r0, rfl, hl1⟩ := list_cons hl
  obtain ⟨c1, rfl⟩ := list_one hl1
  obtain ⟨x0, s0, rfl, hlen1⟩ := list_cons hlen
  obtain ⟨x1, rfl⟩ := list_one hlen1
  have h0 : DataW.trod enc Try.prog W base sp held k 3 (([c0, c1].drop 0).take (Try.prog.cellsOf 3)) = some x0 := hf 0 _ rfl
  have h1 : DataW.trod enc Try.prog W base sp held k 9 (([c0, c1].drop 1).take (Try.prog.cellsOf 9)) = some x1 := hf 1 _ rfl
  rw [cells3] at h0
  rw [cells9] at h1
  obtain ⟨n0, e0, _⟩ := DataW.trod_int Try.underlying3 h0
  obtain ⟨n1, e1, _, hb⟩ := DataW.trod_string Try.underlying9 h1
  simp at e0 e1
  subst e0 e1
  exact ⟨n0, n1, rfl, hb⟩
theorem read_res {n : Nat} {cs : List Value} {x : DataW H × List MemPlace} (h : DataW.trod enc Try.prog W base sp held n 28 cs = some x) : ∃ (y : Res) (F : List Nat), ValsF W y.row cs F := by
  obtain ⟨xs, k, _, _, hl, hlen, hf⟩ := DataW.trod_struct Try.underlying28 h
  rw [cells28] at hl
  obtain ⟨c0, r0, rfl, hl1⟩ := list_cons hl
  obtain ⟨c1, r1, rfl, hl2⟩ := list_cons hl1
  obtain ⟨c2, r2, rfl, hl3⟩ := list_cons hl2
  obtain ⟨c3, r3, rfl, hl4⟩ := list_cons hl3
  obtain ⟨c4, rfl⟩ := list_one hl4
  obtain ⟨x0, s0, rfl, hlen1⟩ := list_cons hlen
  obtain ⟨x1, s1, rfl, hlen2⟩ := list_cons hlen1
  obtain ⟨x2, s2, rfl, hlen3⟩ := list_cons hlen2
  obtain ⟨x3, rfl⟩ := list_one hlen3
  have h0 : DataW.trod enc Try.prog W base sp held k 25 (([c0, c1, c2, c3, c4].drop 0).take (Try.prog.cellsOf 25)) = some x0 := hf 0 _ rfl
  have h1 : DataW.trod enc Try.prog W base sp held k 3 (([c0, c1, c2, c3, c4].drop 2).take (Try.prog.cellsOf 3)) = some x1 := hf 1 _ rfl
  have h2 : DataW.trod enc Try.prog W base sp held k 26 (([c0, c1, c2, c3, c4].drop 3).take (Try.prog.cellsOf 26)) = some x2 := hf 2 _ rfl
  have h3 : DataW.trod enc Try.prog W base sp held k 3 (([c0, c1, c2, c3, c4].drop 4).take (Try.prog.cellsOf 3)) = some x3 := hf 3 _ rfl
  rw [cells25] at h0
  rw [cells3] at h1 h3
  rw [cells26] at h2
  obtain ⟨a, s, e0, hb⟩ := read_fault h0
  obtain ⟨n1, e1, _⟩ := DataW.trod_int Try.underlying3 h1
  obtain ⟨ys, v, F, e2, hc⟩ := read_valss h2
  obtain ⟨n3, e3, _⟩ := DataW.trod_int Try.underlying3 h3
  simp at e0 e1 e2 e3
  obtain ⟨e0, e0'⟩ := e0
  subst e0 e0' e1 e2 e3
  exact ⟨⟨a, s, n1, ys, n3⟩, F, Res.mk_vals (x := ⟨a, s, n1, ys, n3⟩) hc hb⟩
end
end Go.Proofs.Ytklligemdfnimaa
namespace Go.Proofs.Ytklligemdfnimaa.fnExactSameResult
open Go Go.Vc Go.ChangeShapes Go.WideShapes Go.ChangeAt Go.RowKit
theorem own : ownKnob Try.prog.godebug = none := by kernel_rfl
theorem laid : laidOutB Try.prog = true := by kernel_rfl
set_option maxRecDepth 100000 in
theorem lifted (os : Os) (started : os.Started) (H : Type) (enc : TypeId × Value → H) :
    ReturnsInHanded {} Try.checked os 4 .any (Rows.fnExactSameResultSpec.pre6 enc Try.prog Try.f4 Rows.fnExactSameResultRow.domain false) (Rows.fnExactSameResultSpec.post enc Try.prog Try.f4 false true false false) := by
  refine returnsInHanded_of_change (C := Try.checked) own started (by kernel_rfl) Try.func4
    (ChangeSpec.witness6 (enc := enc) (C := Try.checked) false ⟨#[], #[.agg #[.int .i64 0, .string ByteArray.empty, .int .i64 0, .slice none 0 0, .int .i64 0], .agg #[.int .i64 0, .string ByteArray.empty, .int .i64 0, .slice none 0 0, .int .i64 0]], []⟩ 8 (by kernel_rfl) (by kernel_rfl) (by kernel_rfl) (by kernel_rfl)) ?_
  intro W base args ds gs before hval0 hW hcnd _
  have hval : ∀ (j : Nat) t v, Try.f4.params[j]? = some t → args[j]? = some v → Value.okWide Try.prog W .any base t v := hval0
  have hW' := hW
  obtain ⟨p, q, hA0, hV, rfl, hfz, hnd⟩ := hW
  have hA : DataW.TrodAll enc Try.prog W 0 (fun _ => true) true Try.f4.params.toList args.toList ds p := hA0
  rw [Try.params4] at hA hval
  obtain ⟨v0, vs0, d0, ds0, p0, q0, hargs, rfl, rfl, h0, r0⟩ := trodAll_cons hA
  obtain ⟨v1, vs1, d1, ds1, p1, q1, hvs, rfl, rfl, h1, r1⟩ := trodAll_cons r0
  obtain ⟨rfl, rfl, rfl⟩ := trodAll_nil r1
  subst hvs
  obtain rfl : args = #[v0, v1] := by cases args; simp_all
  obtain ⟨rfl, rfl⟩ := trodVars_none hV
  obtain ⟨cs0, rfl, _⟩ := okWide_struct Try.underlying28 (hval 0 28 v0 rfl rfl)
  obtain ⟨cs1, rfl, _⟩ := okWide_struct Try.underlying28 (hval 1 28 v1 rfl rfl)
  obtain ⟨n0, t0⟩ := h0
  obtain ⟨n1, t1⟩ := h1
  obtain ⟨x, F0, hx⟩ := read_res t0
  obtain ⟨y, F1, hy⟩ := read_res t1
  clear hA0 hval0
  simp only [List.append_nil] at hW'
  have hlt : ∀ p ∈ p0 ++ p1, p.block < W.heap.size := fun p hp => hW'.lt p hp
  have hcall := (exactSameResult x y W _ _ F0 F1 hx hy).top fun v m' h => h.1
  refine hcall.mono fun e W' ⟨v, m', he, hb, hf, _, _, hv⟩ => ?_
  subst he hv
  exact ⟨_, rfl, post_of_same (pa := p0 ++ (p1 ++ [])) (pv := []) hW' (fun _ _ _ => (trodAll_cons_mk (shut_bool Try.underlying4 _) trodAll_mk0))
    (fun sp hsp => trodAll_cons_mk (WideElems.Trod_stays (t := 28) laid (by kernel_rfl) (of_decide_eq_true (by kernel_rfl)) ⟨n0, t0⟩ (fun p hp => hb.same (hlt p (by simp [hp]))) (fun p hp => hsp p (by simp [hp])))
        (trodAll_cons_mk (WideElems.Trod_stays (t := 28) laid (by kernel_rfl) (of_decide_eq_true (by kernel_rfl)) ⟨n1, t1⟩ (fun p hp => hb.same (hlt p (by simp [hp]))) (fun p hp => hsp p (by simp [hp]))) trodAll_mk0))
    (fun _ _ => rfl) (by simp)
    (hb.frame _) hf (ok_one (by kernel_rfl) rfl (okWide_bool_mk Try.underlying4 _))⟩

theorem over : Rows.fnExactSameResultRow.holds Try.pinned (OpenSpec.ofChange Rows.fnExactSameResultSpec) :=
  OpenClaim.holds_of_wide 4 Try.f4 rfl rfl rfl rfl rfl rfl rfl ⟨rfl, rfl, rfl, rfl, rfl⟩ rfl rfl rfl rfl rfl (by kernel_rfl) Try.func4 (by kernel_rfl)
    (of_decide_eq_true (by kernel_rfl)) (by unfold Func.isWrapper; first | (rw [if_pos (by decide +kernel)]; kernel_rfl) | (rw [if_neg (by decide +kernel)]; exact ⟨rfl, rfl⟩))
    (fun os started H enc _ => lifted os started H enc)

/--  THE STATEMENT  -/
theorem proved : Rows.FnExactSameResultSaid :=
  over
#print axioms proved
end Go.Proofs.Ytklligemdfnimaa.fnExactSameResult
