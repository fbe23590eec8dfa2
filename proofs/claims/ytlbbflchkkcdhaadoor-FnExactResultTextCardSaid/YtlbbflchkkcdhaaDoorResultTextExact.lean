/-
  The program and the reference print results alike, for all arguments: FnExactResultText holds.
  Conditions: none.
-/
import Derived.Test.YtlbbflchkkcdhaaDoorTextC
import Derived.Test.YtlbbflchkkcdhaaDoorRows
import Derived.ProofKit
import Derived.OpenShut
import Derived.Lib.LaidTab
import Derived.Stop.LaidErr
import Derived.MakeChecks
import Derived.Lay
import Derived.Test.YtlbbflchkkcdhaaDoorTie
import Derived.Test.YtlbbflchkkcdhaaDoorCards
import Derived.SevenTiedAt
set_option linter.unusedVariables false
set_option linter.unusedSimpArgs false
set_option linter.unusedVariables false
set_option linter.unusedSimpArgs false
namespace Go.Proofs.YtlbbflchkkcdhaaDoor
open Go Go.Dv
open Go.Vc (D CellF ValsF read_slice list_cons list_one)
section
variable {H : Type} {enc : TypeId × Value → H} {W : World} {base : Nat} {sp : Nat → Bool} {held : Bool}
theorem cells3 : Tryd.prog.cellsOf 3 = 1 := by kernel_rfl
theorem cells9 : Tryd.prog.cellsOf 9 = 1 := by kernel_rfl
theorem cells66 : Tryd.prog.cellsOf 66 = 3 := by kernel_rfl
theorem cells23 : Tryd.prog.cellsOf 23 = 2 := by kernel_rfl
theorem cells24 : Tryd.prog.cellsOf 24 = 1 := by kernel_rfl
theorem cells26 : Tryd.prog.cellsOf 26 = 5 := by kernel_rfl
theorem cells46 : Tryd.prog.cellsOf 46 = 1 := by kernel_rfl
theorem wf64 {n : Int} (h : (Lit.int .i64 n).wf = true) : -9223372036854775808 ≤ n ∧ n ≤ 9223372036854775807 := by
  simp [Lit.wf, IntKind.min, IntKind.max, IntKind.bits, IntKind.signed] at h
  omega
theorem read_val {n : Nat} {cs : List Value} {x : DataW H × List MemPlace} (h : DataW.trod enc Tryd.prog W base sp held n 66 cs = some x) : ∃ (y : {v : Val // okVal v}) (F : List Nat), ValsF W y.1.row cs F := by
  obtain ⟨xs, k, _, _, hl, hlen, hf⟩ := DataW.trod_struct Tryd.underlying66 h
  rw [cells66] at hl
  obtain ⟨c0, r0, rfl, hl1⟩ := list_cons hl
  obtain ⟨c1, r1, rfl, hl2⟩ := list_cons hl1
  obtain ⟨c2, rfl⟩ := list_one hl2
  obtain ⟨x0, s0, rfl, hlen1⟩ := list_cons hlen
  obtain ⟨x1, s1, rfl, hlen2⟩ := list_cons hlen1
  obtain ⟨x2, rfl⟩ := list_one hlen2
  have h0 : DataW.trod enc Tryd.prog W base sp held k 3 (([c0, c1, c2].drop 0).take (Tryd.prog.cellsOf 3)) = some x0 := hf 0 _ rfl
  have h1 : DataW.trod enc Tryd.prog W base sp held k 3 (([c0, c1, c2].drop 1).take (Tryd.prog.cellsOf 3)) = some x1 := hf 1 _ rfl
  have h2 : DataW.trod enc Tryd.prog W base sp held k 9 (([c0, c1, c2].drop 2).take (Tryd.prog.cellsOf 9)) = some x2 := hf 2 _ rfl
  rw [cells3] at h0 h1
  rw [cells9] at h2
  obtain ⟨n0, e0, _⟩ := DataW.trod_int Tryd.underlying3 h0
  obtain ⟨n1, e1, _, w1⟩ := DataW.trod_int Tryd.underlying3 h1
  obtain ⟨n2, e2, _, hb⟩ := DataW.trod_string Tryd.underlying9 h2
  simp at e0 e1 e2
  subst e0 e1 e2
  exact ⟨⟨⟨n0, n1, n2⟩, wf64 w1⟩, [], [], [], ⟨rfl, rfl, trivial⟩, ⟨[], [], ⟨rfl, rfl, trivial⟩, ⟨[], [], ⟨rfl, rfl, hb⟩, rfl, rfl⟩, rfl⟩, rfl⟩
theorem read_vals {n : Nat} {cs : List Value} {x : DataW H × List MemPlace} (h : DataW.trod enc Tryd.prog W base sp held n 46 cs = some x) : ∃ (y : {l : List Val // okRow l}) (F : List Nat), ValsF W (vrow y.1) cs F := by
  obtain ⟨ys, v, F, rfl, hc⟩ := read_slice (row := fun y : {v : Val // okVal v} => y.1.row) Tryd.underlying46 cells66 (by decide) (fun y => Val.row_len y.1) (fun n cs x _ h => read_val h) h
  refine ⟨⟨ys.map (·.1), fun v hv => ?_⟩, F, ?_⟩
  · obtain ⟨y, _, rfl⟩ := List.mem_map.1 hv
    exact y.2
  · refine ⟨F, [], ?_, rfl, (List.append_nil _).symm⟩
    rw [List.length_map, List.flatMap_map]
    exact hc
theorem read_valss {n : Nat} {cs : List Value} {x : DataW H × List MemPlace} (h : DataW.trod enc Tryd.prog W base sp held n 24 cs = some x) : ∃ (ys : List (List Val)) (v : Value) (F : List Nat), okRows ys ∧ cs = [v] ∧ CellF W (.sl ys.length (ys.flatMap vrow)) v F := by
  obtain ⟨ys, v, F, rfl, hc⟩ := read_slice (row := fun y : {l : List Val // okRow l} => vrow y.1) Tryd.underlying24 cells46 (by decide) (fun y => vrow_len y.1) (fun n cs x _ h => read_vals h) h
  refine ⟨ys.map (·.1), v, F, fun v hv => ?_, rfl, ?_⟩
  · obtain ⟨y, _, rfl⟩ := List.mem_map.1 hv
    exact y.2
  · rw [List.length_map, List.flatMap_map]
    exact hc
theorem read_fault {n : Nat} {cs : List Value} {x : DataW H × List MemPlace} (h : DataW.trod enc Tryd.prog W base sp held n 23 cs = some x) : ∃ (a : Int) (s : ByteArray), cs = [.int .i64 a, .string s] ∧ s.size ≤ maxLen := by
  obtain ⟨xs, k, _, _, hl, hlen, hf⟩ := DataW.trod_struct Tryd.underlying23 h
  rw [cells23] at hl
  obtain ⟨c0, r0, rfl, hl1⟩ := list_cons hl
  obtain ⟨c1, rfl⟩ := list_one hl1
  obtain ⟨x0, s0, rfl, hlen1⟩ := list_cons hlen
  obtain ⟨x1, rfl⟩ := list_one hlen1
  have h0 : DataW.trod enc Tryd.prog W base sp held k 3 (([c0, c1].drop 0).take (Tryd.prog.cellsOf 3)) = some x0 := hf 0 _ rfl
  have h1 : DataW.trod enc Tryd.prog W base sp held k 9 (([c0, c1].drop 1).take (Tryd.prog.cellsOf 9)) = some x1 := hf 1 _ rfl
  rw [cells3] at h0
  rw [cells9] at h1
  obtain ⟨n0, e0, _⟩ := DataW.trod_int Tryd.underlying3 h0
  obtain ⟨n1, e1, _, hb⟩ := DataW.trod_string Tryd.underlying9 h1
  simp at e0 e1
  subst e0 e1
  exact ⟨n0, n1, rfl, hb⟩
theorem read_res {n : Nat} {cs : List Value} {x : DataW H × List MemPlace} (h : DataW.trod enc Tryd.prog W base sp held n 26 cs = some x) : ∃ (y : Res) (F : List Nat), okRes y ∧ ValsF W y.row cs F := by
  obtain ⟨xs, k, _, _, hl, hlen, hf⟩ := DataW.trod_struct Tryd.underlying26 h
  rw [cells26] at hl
  obtain ⟨c0, r0, rfl, hl1⟩ := list_cons hl
  obtain ⟨c1, r1, rfl, hl2⟩ := list_cons hl1
  obtain ⟨c2, r2, rfl, hl3⟩ := list_cons hl2
  obtain ⟨c3, r3, rfl, hl4⟩ := list_cons hl3
  obtain ⟨c4, rfl⟩ := list_one hl4
  obtain ⟨x0, s0, rfl, hlen1⟩ := list_cons hlen
  obtain ⟨x1, s1, rfl, hlen2⟩ := list_cons hlen1
  obtain ⟨x2, s2, rfl, hlen3⟩ := list_cons hlen2
  obtain ⟨x3, rfl⟩ := list_one hlen3
  have h0 : DataW.trod enc Tryd.prog W base sp held k 23 (([c0, c1, c2, c3, c4].drop 0).take (Tryd.prog.cellsOf 23)) = some x0 := hf 0 _ rfl
  have h1 : DataW.trod enc Tryd.prog W base sp held k 3 (([c0, c1, c2, c3, c4].drop 2).take (Tryd.prog.cellsOf 3)) = some x1 := hf 1 _ rfl
  have h2 : DataW.trod enc Tryd.prog W base sp held k 24 (([c0, c1, c2, c3, c4].drop 3).take (Tryd.prog.cellsOf 24)) = some x2 := hf 2 _ rfl
  have h3 : DataW.trod enc Tryd.prog W base sp held k 3 (([c0, c1, c2, c3, c4].drop 4).take (Tryd.prog.cellsOf 3)) = some x3 := hf 3 _ rfl
  rw [cells23] at h0
  rw [cells3] at h1 h3
  rw [cells24] at h2
  obtain ⟨a, s, e0, hb⟩ := read_fault h0
  obtain ⟨n1, e1, _, w1⟩ := DataW.trod_int Tryd.underlying3 h1
  obtain ⟨ys, v, F, hr, e2, hc⟩ := read_valss h2
  obtain ⟨n3, e3, _, w3⟩ := DataW.trod_int Tryd.underlying3 h3
  simp at e0 e1 e2 e3
  obtain ⟨e0, e0'⟩ := e0
  subst e0 e0' e1 e2 e3
  refine ⟨⟨⟨a, s⟩, n1, ys, n3⟩, F, ⟨(wf64 w1).1, (wf64 w1).2, (wf64 w3).1, (wf64 w3).2, hr⟩, [], F, ⟨rfl, rfl, trivial⟩, ⟨[], F, ⟨rfl, rfl, hb⟩, ⟨[], F, ⟨rfl, rfl, trivial⟩, ⟨F, [], hc, ⟨[], [], ⟨rfl, rfl, trivial⟩, rfl, rfl⟩, by simp⟩, rfl⟩, rfl⟩, rfl⟩
end
end Go.Proofs.YtlbbflchkkcdhaaDoor

set_option linter.unusedVariables false
set_option linter.unusedSimpArgs false
namespace Go.Dv
open Go Go.ChangeShapes Go.WideShapes
/-! ## The row's end -/
/-- The condition's variables, and the world's shape beside. -/
theorem returnsInHanded_both {H : Type} {enc : TypeId × Value → H} {a : Assume} {C : Checked} {os : Os} {f : FuncId} {fn : Func} {s : ChangeSpec} {conds : List PathCond} {apart fresh handsOn again : Bool} {X : World → Array Value → Prop}
    (hX : ∀ (w w' : World) (args : Array Value), w.heap = w'.heap → X w args → X w' args)
    (own : ownKnob C.prog.godebug = none) (started : os.Started) (noInit : C.prog.inits.idxOf? f = none) (hfn : C.prog.funcs[f]? = some fn)
    (witness : ∃ (w : World) (tape : Tape) (i : Input), w.os = os ∧ (w.forCall tape i).Shaped C.prog ∧ i.vars = [] ∧ Input.okWide C.prog (w.forCall tape i) .any w.heap.size f i ∧
      ((s.pre enc C.prog fn conds apart (w.forCall tape i).memory i.args ∧ X (w.forCall tape i).memory i.args) ∧ sizedMet enc C.prog fn (OpenSpec.ofChange s) apart (w.forCall tape i).memory i.args) ∧ a.holds C.prog (lone (Frame.enter C.prog f i.args .normal) [] (w.forCall tape i)))
    (contract : ∀ (W : World) (base : Nat) (args : Array Value) (ds gs : List (DataW H)) (before : List MemPlace),
      (∀ (j : Nat) t v, fn.params[j]? = some t → args[j]? = some v → Value.okWide C.prog W .any base t v) →
      DataW.Whole enc C.prog fn.params.toList s.vars apart W args.toList ds gs before →
      conds.all (PathCond.test C.prog ⟨fn.params.toList, ds, s.plain.varTypes C.prog, gs⟩) = true →
      X W args → W.ShapedOpen C.prog →
      Calls C.prog f args W fun e W' => ∃ v, e = .returned v ∧ s.post enc C.prog fn apart fresh handsOn again W args v W') :
    ReturnsInHanded a C os f .any (fun w args => (s.pre enc C.prog fn conds apart w args ∧ X w args) ∧ sizedMet enc C.prog fn (OpenSpec.ofChange s) apart w args) (s.post enc C.prog fn apart fresh handsOn again) := by
  refine returnsInHanded_of_calls own started noInit witness ?_
  intro w tape i _ hsh _ hok hpre hholds
  obtain ⟨_, _, _, fn', hfn', _, _, _, _, hval⟩ := hok
  have e : fn' = fn := Option.some.inj (hfn'.symm.trans hfn)
  subst e
  obtain ⟨⟨⟨ds, gs, before, hw, hc⟩, hx⟩, _⟩ := hpre
  have hw' := DataW.Whole.of_heap (w' := w.forCall tape i) (by rfl) hw
  refine (contract (w.forCall tape i) w.heap.size i.args ds gs before hval hw' hc (hX _ _ _ (by rfl) hx) hsh).mono fun e W' ⟨v, he, hp⟩ => ?_
  subst he
  exact ChangeSpec.post_blind hp
/-- What was there is as it was: the row's end. -/
theorem post_old {H : Type} {enc : TypeId × Value → H} {P : Program} {f : Func} {s : ChangeSpec} {apart fresh handsOn again : Bool} {W W' : World} {args : Array Value} {v : Value} {ds gs : List (DataW H)} {before pa pv : List MemPlace}
    (hW : DataW.Whole enc P f.params.toList s.vars apart W args.toList ds gs before)
    (hres : ∀ (b : Nat) (sp : Nat → Bool) (hd : Bool), DataW.TrodAll enc P W' b sp hd f.resultTypes.toList (v.resultList f.resultTypes.size) (s.fn H (ds ++ gs)).results [])
    (hargs : ∀ sp : Nat → Bool, (∀ p ∈ before, sp p.block = true) → DataW.TrodAll enc P W' 0 sp true f.params.toList args.toList (s.fn H (ds ++ gs)).args pa)
    (hvars : ∀ sp : Nat → Bool, (∀ p ∈ before, sp p.block = true) → DataW.TrodVars enc P W' sp s.vars (s.fn H (ds ++ gs)).vars pv)
    (hps : before = pa ++ pv) (hk : W.keptBut W' (· ∈ before)) (hfz : ∀ a : Addr, a.block < W.heap.size → W'.frozen? a = W.frozen? a)
    (hok : ∀ (j : Nat) (t : TypeId) (r : Value), f.resultTypes[j]? = some t → (v.resultList f.resultTypes.size)[j]? = some r → Value.okWide P W' .any 0 t r) :
    s.post enc P f apart fresh handsOn again W args v W' := by
  have hold : ∀ p ∈ before, (fun b => decide (b < W.heap.size)) p.block = true := fun p hp => by simpa using hW.lt p hp
  have hlt : ∀ p ∈ before, p.block < W.heap.size := fun p hp => hW.lt p hp
  refine ⟨ds, gs, before, [], pa, pv, hW, hres _ _ _, hargs _ hold, hvars _ hold, World.keptBut_mono (fun p hp => ⟨hp, ?_⟩) hk, fun _ => ?_⟩
  · rw [hps, List.mem_append] at hp
    exact Or.inr hp
  · obtain ⟨_, _, _, _, _, hz, hn⟩ := hW
    refine ⟨hok, _, _, ([] ++ pa) ++ pv, ⟨[] ++ pa, pv, trodAll_append (hargs _ (fun _ _ => rfl)) (hres _ _ _), hvars _ (fun _ _ => rfl), rfl, ?_, ?_⟩, ?_⟩
    · intro b off hp
      have hp' : MemPlace.cell b off ∈ before := by rw [hps]; simpa using hp
      rw [hfz ⟨b, off, none⟩ (hlt _ hp')]
      exact hz b off hp'
    · intro ha
      have := hn ha
      rw [hps] at this
      simpa using this
    · intro p hp _
      rw [hps]
      simpa using hp
/-- What the condition tells of the library's variables. -/
theorem glw_of {P : Program} {W : World} {t : TypeId} {zero : Array Value} {n0 : String} (h0 : P.globalNamed n0 = some 0) (ht : Lib.TabIs P W n0 .u64 Lib.pow10Tab)
    (h : W.ShapedOpen P) (hg : 1 < P.globals.size) (hr : ((begin P (fun _ _ => 0) default).world.heap[1]?).bind Obj.row? = some (zero, t)) (hz : zero.size = 1)
    (hb : P.buildable t = true) (hc : P.cellTypes P.depth t = some [t]) (hu : P.underlying t = some (.int .i64)) : GlW W (fun _ => False) := by
  intro x hx
  simp only [libVars, List.mem_cons, List.not_mem_nil, or_false] at hx
  rcases hx with rfl | rfl
  · refine ⟨id, ?_⟩
    unfold Lib.TabIs World.var? at ht
    rw [h0, Option.bind_some] at ht
    split at ht
    · rename_i cs ty lh hh
      exact ⟨cs, ty, lh, hh, Option.some.inj ht⟩
    · cases ht
  · refine ⟨id, ?_⟩
    obtain ⟨m, hm⟩ := Go.Proofs.cell_of_shapedOpen_int h hg hr hz hb hc hu
    unfold World.cell? at hm
    simp only at hm
    split at hm
    · rename_i cs ty lh hh
      exact ⟨cs, ty, lh, hh, m, hm⟩
    · cases hm
end Go.Dv
namespace Go.Proofs.YtlbbflchkkcdhaaDoor
open Go Go.Dv Go.ChangeShapes Go.WideShapes Go.ChangeAt Go.RowKit
theorem own : ownKnob Tryd.prog.godebug = none := by kernel_rfl
theorem laidOut : laidOutB Tryd.prog = true := by kernel_rfl
theorem laid_glw {W : World} (hL : laidMetH Tryd.prog Rows.fnExactResultTextRow.laid W) (hs : W.ShapedOpen Tryd.prog) : GlW W (fun _ => False) := by
  rw [MakeChecks.laidMetH_plain _ _ _ (by kernel_rfl)] at hL
  have h2 : laidMet Tryd.prog ((((Rows.fnExactResultTextRow.laid.map (·.1)).getD 2 ""), Lib.tabData .u64 Lib.pow10Tab) :: Rows.fnExactResultTextRow.laid.drop 3) W := laidMet.tail (laidMet.tail hL)
  exact glw_of (t := 3) (zero := #[.int .i64 0]) (by kernel_rfl) (Lib.tabIs_of_head (g := 0) (t := 96) (e := 84) (n := 20) (by kernel_rfl) (by kernel_rfl) Tryd.underlying96 Tryd.underlying84 (by kernel_rfl) (by kernel_rfl) h2) hs (of_decide_eq_true (by kernel_rfl)) (by kernel_rfl) rfl (by kernel_rfl) (by kernel_rfl) Tryd.underlying3

set_option maxRecDepth 100000 in
theorem lifted (os : Os) (started : os.Started) (H : Type) (enc : TypeId × Value → H) :
    ReturnsInHanded {} Tryd.checked os 3 .any (fun w args => (Rows.fnExactResultTextSpec.pre enc Tryd.prog Tryd.f3 Rows.fnExactResultTextRow.domain false w args ∧ laidMetH Tryd.prog Rows.fnExactResultTextRow.laid w) ∧ sizedMet enc Tryd.prog Tryd.f3 (OpenSpec.ofChange Rows.fnExactResultTextSpec) false w args)
      (Rows.fnExactResultTextSpec.post enc Tryd.prog Tryd.f3 false true false false) := by
  refine returnsInHanded_both (C := Tryd.checked) (X := fun w _ => laidMetH Tryd.prog Rows.fnExactResultTextRow.laid w) (fun _ _ _ hh h => h.of_heap hh) own started (by kernel_rfl) Tryd.func3
    (ChangeSpec.witness_shaped (enc := enc) (C := Tryd.checked) (os := os) (X := fun w _ => laidMetH Tryd.prog Rows.fnExactResultTextRow.laid w) false (World.laidAll Tryd.prog os Rows.fnExactResultTextRow.laid) #[.agg #[.int .i64 0, .string ByteArray.empty, .int .i64 0, .slice none 0 0, .int .i64 0]] 8 (World.laidAll_os _ _ _)
      (World.shaped_of_ZipB (by kernel_rfl) (by kernel_rfl)) (by kernel_rfl) (by kernel_rfl) (by kernel_rfl)
      (by rw [MakeChecks.laidMetH_plain _ _ _ (by kernel_rfl)]; exact laidMet_laidAll _ (by kernel_rfl) (by kernel_rfl))) ?_
  intro W base args ds gs before hval0 hW _ hL hsh
  have hval : ∀ (j : Nat) t v, Tryd.f3.params[j]? = some t → args[j]? = some v → Value.okWide Tryd.prog W .any base t v := hval0
  have hW' := hW
  obtain ⟨p, q, hA0, hV, rfl, hfz, hnd⟩ := hW
  have hA : DataW.TrodAll enc Tryd.prog W 0 (fun _ => true) true Tryd.f3.params.toList args.toList ds p := hA0
  rw [Tryd.params3] at hA hval
  obtain ⟨v0, vs0, d0, ds0, p0, q0, hargs, rfl, rfl, h0, r0⟩ := trodAll_cons hA
  obtain ⟨rfl, rfl, rfl⟩ := trodAll_nil r0
  obtain rfl : args = #[v0] := by cases args; simp_all
  obtain ⟨rfl, rfl⟩ := trodVars_none hV
  obtain ⟨cs0, rfl, _⟩ := okWide_struct Tryd.underlying26 (hval 0 26 v0 rfl rfl)
  obtain ⟨n0, t0⟩ := h0
  obtain ⟨x, F0, hok, hx⟩ := read_res t0
  clear hA0 hval0
  simp only [List.append_nil] at hW'
  have hlt : ∀ p ∈ p0, p.block < W.heap.size := fun p hp => hW'.lt p hp
  have hrel : RelA Tryd.prog W (fun _ => none) (fun _ => True) [.ag (csOf x.row)] [.agg cs0] := ⟨⟨cs0.toList, by simp, csOf_rel hx fun _ _ => trivial⟩, trivial⟩
  have hcall := (law_d x hok).top (by simp only [List.flatMap_cons, List.flatMap_nil, List.append_nil]; exact plainL_csOf _) hrel (laid_glw hL hsh)
  refine hcall.mono fun e W' ⟨v, r, he, hr, hb, hf, β, okk, hv⟩ => ?_
  subst he hr
  obtain ⟨rfl, _⟩ := hv
  exact ⟨_, rfl, post_old (pa := p0) (pv := []) hW' (fun _ _ _ => (trodAll_cons_mk (shut_bool Tryd.underlying4 _) trodAll_mk0))
    (fun sp hsp => trodAll_mk1 (WideElems.Trod_stays (t := 26) laidOut (by kernel_rfl) (of_decide_eq_true (by kernel_rfl)) ⟨n0, t0⟩ (fun p hp => hb.same (hlt p hp)) (fun p hp => hsp p hp)))
    (fun _ _ => rfl) (by simp)
    (hb.frame _) hf (ok_one (by kernel_rfl) rfl (okWide_bool_mk Tryd.underlying4 _))⟩

theorem over : Rows.fnExactResultTextRow.holds Tryd.pinned (OpenSpec.ofChange Rows.fnExactResultTextSpec) :=
  OpenClaim.holds_of_wide 3 Tryd.f3 rfl rfl rfl rfl rfl rfl rfl ⟨rfl, rfl, rfl, rfl, rfl⟩ rfl rfl rfl rfl rfl (by kernel_rfl) Tryd.func3 (by kernel_rfl)
    (of_decide_eq_true (by kernel_rfl)) (by unfold Func.isWrapper; first | (rw [if_pos (by decide +kernel)]; kernel_rfl) | (rw [if_neg (by decide +kernel)]; exact ⟨rfl, rfl⟩))
    (fun os started H enc _ => lifted os started H enc)

namespace fnExactResultText
theorem proved : Rows.FnExactResultTextCardSaid :=
  Claim7.holds_tied_plain_at .later [] [.data, .data, .data, .data, .pinned] true (true, "6406e93a47b2e0bc9cd0c1875047389fb370a5d16e7f0593a12b6e7343452dd9") false over (fun _ h => by cases h) (by kernel_rfl) (fun _ h => by cases h) fnExactResultText_row_tie rfl ⟨rfl, rfl⟩ (by kernel_rfl) rfl
    (fun f fn hf hfn => by
      obtain rfl : f = 3 := Option.some.inj ((show Tryd.prog.funcNamed Rows.fnExactResultTextRow.func = some 3 by kernel_rfl).symm.trans hf) |>.symm
      obtain rfl : fn = Tryd.f3 := (Option.some.inj (Tryd.func3.symm.trans hfn)).symm
      exact ⟨by kernel_rfl, fun j t ht => by
        rw [Tryd.params3] at ht
        have hm : t ∈ [26] := by simpa using Array.mem_of_getElem? ht
        have hall : ([26].all fun u => !Tryd.prog.wantsStandIn u) = true := by kernel_rfl
        exact (show Tryd.prog.wantsStandIn t = false by simpa using List.all_eq_true.1 hall t hm)⟩)
    (by kernel_rfl)
#print axioms proved
end fnExactResultText
end Go.Proofs.YtlbbflchkkcdhaaDoor
