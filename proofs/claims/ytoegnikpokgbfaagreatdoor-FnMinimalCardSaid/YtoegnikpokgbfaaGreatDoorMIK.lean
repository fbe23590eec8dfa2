/-
  What the rows read.
  Conditions: none.
-/
import Derived.Test.YtoegnikpokgbfaaGreatDoorMIV1
import Derived.Test.YtoegnikpokgbfaaGreatDoorRows
import Derived.Test.YtoegnikpokgbfaaGreatDoorTie
import Derived.Test.YtoegnikpokgbfaaGreatDoorCards
import Derived.ProofKit
import Derived.OpenShut
import Derived.Lib.LaidTab
import Derived.Stop.LaidErr
import Derived.MakeChecks
import Derived.Lay
import Derived.SevenTiedAt
import Derived.RowKitTokens
set_option linter.unusedVariables false
set_option linter.unusedSimpArgs false
set_option linter.unusedSectionVars false
set_option linter.unnecessarySimpa false
set_option maxRecDepth 8000
namespace Go.Proofs.YtoegnikpokgbfaaGreatDoor
open Go Go.Dv
open Go.Vc (D cF cG cv aX)
open Go.Cv
open Go.Vc (CellF ValsF callable Cells)
theorem CQ {P:Program} {w:World} {n:Nat} {ds:List D} {v:Value} {G:List Nat} (h:CellF w (.sl n ds) v G):RelS P w (fun _=>none) (fun _=>True) (.c (.sl n ds none)) v:=⟨G,h,fun _ _=>trivial,fun _ h=>by cases h⟩
end Go.Proofs.YtoegnikpokgbfaaGreatDoor
set_option maxRecDepth 8000
namespace Go.Dv
open Go Go.ChangeShapes Go.WideShapes
theorem kr {H:Type} {enc:TypeId×Value->H} {a:Assume} {C:Checked} {os:Os} {f:FuncId} {fn:Func} {s:ChangeSpec} {conds:List PathCond} {apart fresh handsOn again:Bool} {X:World->Array Value->Prop}
 (hX:∀(w w':World) (args:Array Value),w.heap=w'.heap->X w args->X w' args)
 (own:ownKnob C.prog.godebug=none) (started:os.Started) (noInit:C.prog.inits.idxOf? f=none) (hfn:C.prog.funcs[f]?=some fn)
 (witness:∃(w:World) (tape:Tape) (i:Input),w.os=os/\(w.forCall tape i).Shaped C.prog/\i.vars=[]/\Input.okWide C.prog (w.forCall tape i) .any w.heap.size f i /\
   ((s.pre enc C.prog fn conds apart (w.forCall tape i).memory i.args/\X (w.forCall tape i).memory i.args)/\sizedMet enc C.prog fn (OpenSpec.ofChange s) apart (w.forCall tape i).memory i.args)/\a.holds C.prog (lone (Frame.enter C.prog f i.args .normal) [] (w.forCall tape i)))
 (contract:∀(W:World) (base:Nat) (args:Array Value) (ds gs:List (DataW H)) (before:List MemPlace),
   (∀(j:Nat) t v,fn.params[j]?=some t->args[j]?=some v->Value.okWide C.prog W .any base t v) ->
   DataW.Whole enc C.prog fn.params.toList s.vars apart W args.toList ds gs before ->
   conds.all (PathCond.test C.prog ⟨fn.params.toList,ds,s.plain.varTypes C.prog,gs⟩)=true ->
   X W args->W.ShapedOpen C.prog ->
   Calls C.prog f args W fun e W'=>∃v,e = .returned v/\s.post enc C.prog fn apart fresh handsOn again W args v W') :
 ReturnsInHanded a C os f .any (fun w args=>(s.pre enc C.prog fn conds apart w args/\X w args)/\sizedMet enc C.prog fn (OpenSpec.ofChange s) apart w args) (s.post enc C.prog fn apart fresh handsOn again):=by
 refine returnsInHanded_of_calls own started noInit witness ?_
 intro w tape i _ hsh _ hok hpre hholds
 obtain⟨_,_,_,fn',hfn',_,_,_,_,hval⟩:=hok
 have e:fn'=fn:=Option.some.inj (hfn'.symm.trans hfn)
 subst e
 obtain⟨⟨⟨ds,gs,before,hw,hc⟩,hx⟩,_⟩:=hpre
 have hw':=DataW.Whole.of_heap (w':=w.forCall tape i) (by rfl) hw
 refine (contract (w.forCall tape i) w.heap.size i.args ds gs before hval hw' hc (hX _ _ _ (by rfl) hx) hsh).mono fun e W' ⟨v,he,hp⟩=>?_
 subst he
 exact ChangeSpec.post_blind hp
theorem B8 {H:Type} {enc:TypeId×Value->H} {P:Program} {f:Func} {s:ChangeSpec} {apart fresh handsOn again:Bool} {W W':World} {args:Array Value} {v:Value} {ds gs:List (DataW H)} {before pa pv:List MemPlace}
 (hW:DataW.Whole enc P f.params.toList s.vars apart W args.toList ds gs before)
 (hres:∀(b:Nat) (sp:Nat->Bool) (hd:Bool),DataW.TrodAll enc P W' b sp hd f.resultTypes.toList (v.resultList f.resultTypes.size) (s.fn H (ds++gs)).results [])
 (hargs:∀sp:Nat->Bool,(∀p∈before,sp p.block=true)->DataW.TrodAll enc P W' 0 sp true f.params.toList args.toList (s.fn H (ds++gs)).args pa)
 (hvars:∀sp:Nat->Bool,(∀p∈before,sp p.block=true)->DataW.TrodVars enc P W' sp s.vars (s.fn H (ds++gs)).vars pv)
 (hps:before=pa++pv) (hk:W.keptBut W' (· ∈ before)) (hfz:∀a:Addr,a.block<W.heap.size->W'.frozen? a=W.frozen? a)
 (hok:∀(j:Nat) (t:TypeId) (r:Value),f.resultTypes[j]?=some t->(v.resultList f.resultTypes.size)[j]?=some r->Value.okWide P W' .any 0 t r) :
 s.post enc P f apart fresh handsOn again W args v W':=by
 have hold:∀p∈before,(fun b=>decide (b<W.heap.size)) p.block=true:=fun p hp=>by simpa using hW.lt p hp
 have hlt:∀p∈before,p.block<W.heap.size:=fun p hp=>hW.lt p hp
 refine⟨ds,gs,before,[],pa,pv,hW,hres _ _ _,hargs _ hold,hvars _ hold,World.keptBut_mono (fun p hp=>⟨hp,?_⟩) hk,fun _=>?_⟩
 ·rw[hps,List.mem_append] at hp
  exact Or.inr hp
 ·obtain⟨_,_,_,_,_,hz,hn⟩:=hW
  refine⟨hok,_,_,([]++pa)++pv,⟨[]++pa,pv,trodAll_append (hargs _ (fun _ _=>rfl)) (hres _ _ _),hvars _ (fun _ _=>rfl),rfl,?_,?_⟩,?_⟩
  ·intro b off hp
   have hp':MemPlace.cell b off∈before:=by rw[hps];simpa using hp
   rw[hfz ⟨b,off,none⟩ (hlt _ hp')]
   exact hz b off hp'
  ·intro ha
   have:=hn ha
   rw[hps] at this
   simpa using this
  ·intro p hp _
   rw[hps]
   simpa using hp
theorem F9 {P:Program} {W:World} {t tp4 tp5:TypeId} {zero:Array Value} {n1 n4 n5:String} {a4 a5:Value} (h1:P.globalNamed n1=some 1) (ht:Lib.TabIs P W n1 .u64 Lib.pow10Tab)
 (h:W.ShapedOpen P) (hg:0<P.globals.size) (hr:((begin P (fun _ _=>0) default).world.heap[0]?).bind Obj.row?=some (zero,t)) (hz:zero.size=1)
 (hb:P.buildable t=true) (hc:P.cellTypes P.depth t=some [t]) (hu:P.underlying t=some (.int .i64))
 (g4:P.globalNamed n4=some 6) (v4:W.var? P n4=some #[.iface tp4 a4]) (g5:P.globalNamed n5=some 7) (v5:W.var? P n5=some #[.iface tp5 a5]):GlW W (fun _=>False):=by
 intro x hx
 replace hx:x∈oo++[]:=hx
 rw[List.append_nil] at hx
 simp only[oo,List.mem_cons,List.not_mem_nil,or_false] at hx
 rcases hx with rfl|rfl|rfl|rfl
 ·refine⟨id,?_⟩
  unfold Lib.TabIs World.var? at ht
  rw[h1,Option.bind_some] at ht
  split at ht
  ·rename_i cs ty lh hh
   exact⟨cs,ty,lh,hh,Option.some.inj ht⟩
  ·cases ht
 ·refine⟨id,?_⟩
  obtain⟨m,hm⟩:=Go.Proofs.cell_of_shapedOpen_int h hg hr hz hb hc hu
  unfold World.cell? at hm
  simp only at hm
  split at hm
  ·rename_i cs ty lh hh
   exact⟨cs,ty,lh,hh,m,hm⟩
  ·cases hm
 ·refine⟨id,?_⟩
  unfold World.var? at v4
  rw[g4,Option.bind_some] at v4
  split at v4
  ·rename_i cs ty lh hh
   obtain rfl:=Option.some.inj v4
   exact⟨_,ty,lh,hh,_,rfl,.inr ⟨_,_,rfl⟩⟩
  ·cases v4
 ·refine⟨id,?_⟩
  unfold World.var? at v5
  rw[g5,Option.bind_some] at v5
  split at v5
  ·rename_i cs ty lh hh
   obtain rfl:=Option.some.inj v5
   exact⟨_,ty,lh,hh,_,rfl,.inr ⟨_,_,rfl⟩⟩
  ·cases v5
end Go.Dv
namespace Go.Proofs.YtoegnikpokgbfaaGreatDoor
open Go Go.Dv Go.ChangeShapes Go.WideShapes Go.ChangeAt Go.RowKit
open Go.Vc (D CellF ValsF qh)
theorem B9:Tryz.prog.cellsOf 9=1:=by kernel_rfl
section
variable {H:Type} {enc:TypeId×Value->H} {W:World} {base:Nat} {sp:Nat->Bool} {held:Bool}
theorem vY {n:Nat} {cs:List Value} {x:DataW H×List MemPlace} (h:DataW.trod enc Tryz.prog W base sp held n 22 cs=some x):∃(l:List Int) (v:Value) (F:List Nat),cs=[v]/\CellF W (.sl l.length (l.flatMap iY)) v F:=
 qh (row:=iY) (sz:=1) Tryz.underlying22 ac ae pV (fun n cs x _ h=>by
  obtain⟨n0,rfl,_⟩:=DataW.trod_int Tryz.underlying5 h
  exact⟨n0,[],(⟨[],[],⟨rfl,rfl,trivial⟩,rfl,rfl⟩:ValsF W (iY n0) [_] [])⟩) h
end
theorem own:ownKnob Tryz.prog.godebug=none:=by kernel_rfl
theorem CR:laidOutB Tryz.prog=true:=by kernel_rfl
theorem star : "*" ++ "errors.errorString" = "*errors.errorString" := by decide
theorem Ba (u:TypeId) (h:Tryz.prog.typeName? 3 u=some "*errors.errorString"):u=281:=
 typeName_ptr_named (nm := "errors.errorString") (by rw[star];kernel_rfl) ac ae u (by rw[star];exact h)
theorem um:Tryz.prog.cellsOf 283=1:=by kernel_rfl
theorem yS {W W':World} (g:Go.Cv.Gr W W'):∀a:Addr,a.block<W.heap.size->W'.frozen? a=W.frozen? a:=fun a ha=>by
 unfold World.frozen?
 rw[g.keep a.block ha]
end Go.Proofs.YtoegnikpokgbfaaGreatDoor
