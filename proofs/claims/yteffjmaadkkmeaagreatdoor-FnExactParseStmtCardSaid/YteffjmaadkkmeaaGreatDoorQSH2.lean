/-
  Parsing sources; what the rows read.
  Conditions: none.
-/
import Derived.Test.YteffjmaadkkmeaaGreatDoorQSC2
import Derived.Test.YteffjmaadkkmeaaGreatDoorQSD2
import Derived.Test.YteffjmaadkkmeaaGreatDoorQSE
import Derived.Test.YteffjmaadkkmeaaGreatDoorQSG
import Derived.Test.YteffjmaadkkmeaaGreatDoorRows
import Derived.Test.YteffjmaadkkmeaaGreatDoorTie
import Derived.Test.YteffjmaadkkmeaaGreatDoorCards
import Derived.ProofKit
import Derived.OpenShut
import Derived.Lib.LaidTab
import Derived.Stop.LaidErr
import Derived.MakeChecks
import Derived.Lay
import Derived.SevenTiedAt
import Derived.RowKitTokens
set_option linter.unusedVariables false
set_option linter.unusedSimpArgs false
set_option linter.unusedSectionVars false
set_option maxRecDepth 8000
namespace Go.Proofs.YteffjmaadkkmeaaGreatDoor
open Go Go.Dv
open Go.Vc (D eb ec dK bN)
open Go.Cv
open Go.Vc (CellF ValsF aV Cells)
theorem dg {P:Program} {w:World} {ds:List D} {vs:List Value} {F:List Nat} (h:ValsF w ds vs F):RelS P w (fun _=>none) (fun _=>True) (.ag (an ds)) (.agg vs.toArray):=⟨vs,rfl,qu h fun _ _=>trivial⟩
theorem mh (ds:List D) (k:Int):dk ([S.ag (an ds),vi k].flatMap bt)=true:=by
 simp only[List.flatMap_cons,List.flatMap_nil,List.append_nil,eR,bt,lH,Bool.true_and];rfl
theorem dQ {w:World} {b:Nat} {vs:List Value} {t:TypeId} (hb:w.heap[b]?=some (.cells vs.toArray t (0,0))):Cells w b 0 vs:=fun j v hj=>by
 rw[Nat.zero_add];exact eQ hb (by simpa using hj)
theorem _root_.Go.Cv.Gr.box {w w':World} {b:Nat} {o:Obj} (g:Gr w w') (hb:w.heap[b]?=some o):w'.heap[b]?=some o:=(g.keep b (Array.getElem?_eq_some_iff.1 hb).1).trans hb
theorem _root_.Go.Cv.ChL.box {F:List Nat} {w w':World} {b:Nat} {o:Obj} (g:ChL F w w') (hb:w.heap[b]?=some o) (hn:b ∉ F):w'.heap[b]?=some o:=(g.keep b (Array.getElem?_eq_some_iff.1 hb).1 hn).trans hb
theorem ig {w:World} {b:Nat} {o:Obj} (hb:w.heap[b]?=some o):b<w.heap.size:=(Array.getElem?_eq_some_iff.1 hb).1
theorem uh {w:World} (hg:GlW w (fun _=>False)):∀t∈dv,t.1<w.heap.size:=fun t ht=>by
 obtain⟨_,cs,ty,lh,h,_⟩:=hg t ht
 exact ig h
theorem pF {w:World} {ds:List D} {vs:List Value} {F:List Nat} (h:ValsF w ds vs F):∀v∈vs,v.oneCell'=true:=fun v hv=>by
 have:=h.oneCell v hv
 revert this
 cases v<;>simp [Go.Vc.oneCell,Value.oneCell']
theorem ui:∀a b:List C,fpL (a++b)=fpL a++fpL b
 | [],_=>rfl
 |x::r,b=>by simp [fpL,ui r b]
theorem fh (a b:List D):dk ([S.ag (an a),S.ag (an b)].flatMap bt)=true:=by
 simp only[List.flatMap_cons,List.flatMap_nil,List.append_nil,eR,bt,lH,Bool.true_and]
end Go.Proofs.YteffjmaadkkmeaaGreatDoor
set_option maxRecDepth 8000
namespace Go.Dv
open Go Go.ChangeShapes Go.WideShapes
theorem hJ {H:Type} {enc:TypeId×Value→H} {a:Assume} {C:Checked} {os:Os} {f:FuncId} {fn:Func} {s:ChangeSpec} {conds:List PathCond} {apart fresh handsOn again:Bool} {X:World→Array Value→Prop}
 (hX:∀(w w':World) (args:Array Value),w.heap=w'.heap→X w args→X w' args)
 (own:ownKnob C.prog.godebug=none) (started:os.Started) (noInit:C.prog.inits.idxOf? f=none) (hfn:C.prog.funcs[f]?=some fn)
 (witness:∃(w:World) (tape:Tape) (i:Input),w.os=os∧(w.forCall tape i).Shaped C.prog∧i.vars=[]∧Input.okWide C.prog (w.forCall tape i) .any w.heap.size f i ∧
   ((s.pre enc C.prog fn conds apart (w.forCall tape i).memory i.args∧X (w.forCall tape i).memory i.args)∧sizedMet enc C.prog fn (OpenSpec.ofChange s) apart (w.forCall tape i).memory i.args)∧a.holds C.prog (lone (Frame.enter C.prog f i.args .normal) [] (w.forCall tape i)))
 (contract:∀(W:World) (base:Nat) (args:Array Value) (ds gs:List (DataW H)) (before:List MemPlace),
   (∀(j:Nat) t v,fn.params[j]?=some t→args[j]?=some v→Value.okWide C.prog W .any base t v) →
   DataW.Whole enc C.prog fn.params.toList s.vars apart W args.toList ds gs before →
   conds.all (PathCond.test C.prog ⟨fn.params.toList,ds,s.plain.varTypes C.prog,gs⟩)=true →
   X W args→W.ShapedOpen C.prog →
   Calls C.prog f args W fun e W'=>∃v,e = .returned v∧s.post enc C.prog fn apart fresh handsOn again W args v W') :
 ReturnsInHanded a C os f .any (fun w args=>(s.pre enc C.prog fn conds apart w args∧X w args)∧sizedMet enc C.prog fn (OpenSpec.ofChange s) apart w args) (s.post enc C.prog fn apart fresh handsOn again):=by
 refine returnsInHanded_of_calls own started noInit witness ?_
 intro w tape i _ hsh _ hok hpre hholds
 obtain⟨_,_,_,fn',hfn',_,_,_,_,hval⟩:=hok
 have e:fn'=fn:=Option.some.inj (hfn'.symm.trans hfn)
 subst e
 obtain⟨⟨⟨ds,gs,before,hw,hc⟩,hx⟩,_⟩:=hpre
 have hw':=DataW.Whole.of_heap (w':=w.forCall tape i) (by rfl) hw
 refine (contract (w.forCall tape i) w.heap.size i.args ds gs before hval hw' hc (hX _ _ _ (by rfl) hx) hsh).mono fun e W' ⟨v,he,hp⟩=>?_
 subst he
 exact ChangeSpec.post_blind hp
theorem wm {H:Type} {enc:TypeId×Value→H} {P:Program} {f:Func} {s:ChangeSpec} {apart fresh handsOn again:Bool} {W W':World} {args:Array Value} {v:Value} {ds gs:List (DataW H)} {before pa pv:List MemPlace}
 (hW:DataW.Whole enc P f.params.toList s.vars apart W args.toList ds gs before)
 (hres:∀(b:Nat) (sp:Nat→Bool) (hd:Bool),DataW.TrodAll enc P W' b sp hd f.resultTypes.toList (v.resultList f.resultTypes.size) (s.fn H (ds++gs)).results [])
 (hargs:∀sp:Nat→Bool,(∀p∈before,sp p.block=true)→DataW.TrodAll enc P W' 0 sp true f.params.toList args.toList (s.fn H (ds++gs)).args pa)
 (hvars:∀sp:Nat→Bool,(∀p∈before,sp p.block=true)→DataW.TrodVars enc P W' sp s.vars (s.fn H (ds++gs)).vars pv)
 (hps:before=pa++pv) (hk:W.keptBut W' (· ∈ before)) (hfz:∀a:Addr,a.block<W.heap.size→W'.frozen? a=W.frozen? a)
 (hok:∀(j:Nat) (t:TypeId) (r:Value),f.resultTypes[j]?=some t→(v.resultList f.resultTypes.size)[j]?=some r→Value.okWide P W' .any 0 t r) :
 s.post enc P f apart fresh handsOn again W args v W':=by
 have hold:∀p∈before,(fun b=>decide (b<W.heap.size)) p.block=true:=fun p hp=>by simpa using hW.lt p hp
 have hlt:∀p∈before,p.block<W.heap.size:=fun p hp=>hW.lt p hp
 refine⟨ds,gs,before,[],pa,pv,hW,hres _ _ _,hargs _ hold,hvars _ hold,World.keptBut_mono (fun p hp=>⟨hp,?_⟩) hk,fun _=>?_⟩
 ·rw[hps,List.mem_append] at hp
  exact Or.inr hp
 ·obtain⟨_,_,_,_,_,hz,hn⟩:=hW
  refine⟨hok,_,_,([]++pa)++pv,⟨[]++pa,pv,trodAll_append (hargs _ (fun _ _=>rfl)) (hres _ _ _),hvars _ (fun _ _=>rfl),rfl,?_,?_⟩,?_⟩
  ·intro b off hp
   have hp':MemPlace.cell b off∈before:=by rw[hps];simpa using hp
   rw[hfz ⟨b,off,none⟩ (hlt _ hp')]
   exact hz b off hp'
  ·intro ha
   have:=hn ha
   rw[hps] at this
   simpa using this
  ·intro p hp _
   rw[hps]
   simpa using hp
theorem C0 {P:Program} {W:World} {t tp4 tp5:TypeId} {zero:Array Value} {n1 n4 n5:String} {a4 a5:Value} (h1:P.globalNamed n1=some 3) (ht:Lib.TabIs P W n1 .u64 Lib.pow10Tab)
 (h:W.ShapedOpen P) (hg:0<P.globals.size) (hr:((begin P (fun _ _=>0) default).world.heap[0]?).bind Obj.row?=some (zero,t)) (hz:zero.size=1)
 (hb:P.buildable t=true) (hc:P.cellTypes P.depth t=some [t]) (hu:P.underlying t=some (.int .i64))
 (g4:P.globalNamed n4=some 1) (v4:W.var? P n4=some #[.iface tp4 a4]) (g5:P.globalNamed n5=some 2) (v5:W.var? P n5=some #[.iface tp5 a5]):GlW W (fun _=>False):=by
 intro x hx
 simp only[dv,List.mem_cons,List.not_mem_nil,or_false] at hx
 rcases hx with rfl|rfl|rfl|rfl
 ·refine⟨id,?_⟩
  unfold Lib.TabIs World.var? at ht
  rw[h1,Option.bind_some] at ht
  split at ht
  ·rename_i cs ty lh hh
   exact⟨cs,ty,lh,hh,Option.some.inj ht⟩
  ·cases ht
 ·refine⟨id,?_⟩
  obtain⟨m,hm⟩:=Go.Proofs.cell_of_shapedOpen_int h hg hr hz hb hc hu
  unfold World.cell? at hm
  simp only at hm
  split at hm
  ·rename_i cs ty lh hh
   exact⟨cs,ty,lh,hh,m,hm⟩
  ·cases hm
 ·refine⟨id,?_⟩
  unfold World.var? at v4
  rw[g4,Option.bind_some] at v4
  split at v4
  ·rename_i cs ty lh hh
   obtain rfl:=Option.some.inj v4
   exact⟨_,ty,lh,hh,_,rfl,.inr ⟨_,_,rfl⟩⟩
  ·cases v4
 ·refine⟨id,?_⟩
  unfold World.var? at v5
  rw[g5,Option.bind_some] at v5
  split at v5
  ·rename_i cs ty lh hh
   obtain rfl:=Option.some.inj v5
   exact⟨_,ty,lh,hh,_,rfl,.inr ⟨_,_,rfl⟩⟩
  ·cases v5
end Go.Dv
namespace Go.Proofs.YteffjmaadkkmeaaGreatDoor
open Go Go.Dv Go.ChangeShapes Go.WideShapes Go.ChangeAt Go.RowKit
open Go.Vc (D CellF ValsF rg iH rf)
section
variable {W:World}
end
section
variable {H:Type} {enc:TypeId×Value→H} {W:World} {base:Nat} {sp:Nat→Bool} {held:Bool}
theorem qZ:Tryz.prog.cellsOf 9=1:=by kernel_rfl
end
theorem own:ownKnob Tryz.prog.godebug=none:=by kernel_rfl
theorem yN:laidOutB Tryz.prog=true:=by kernel_rfl
theorem star : "*" ++ "errors.errorString" = "*errors.errorString" := by decide
theorem uj (u:TypeId) (h:Tryz.prog.typeName? 3 u=some "*errors.errorString"):u=273:=
 typeName_ptr_named (nm := "errors.errorString") (by rw[star];kernel_rfl) (by kernel_rfl) (by decide) u (by rw[star];exact h)
theorem ov:Tryz.prog.cellsOf 275=1:=by kernel_rfl
theorem sV {W W':World} (g:Go.Cv.Gr W W'):∀a:Addr,a.block<W.heap.size→W'.frozen? a=W.frozen? a:=fun a ha=>by
 unfold World.frozen?
 rw[g.keep a.block ha]
end Go.Proofs.YteffjmaadkkmeaaGreatDoor
set_option maxRecDepth 8000
namespace Go.Proofs.YteffjmaadkkmeaaGreatDoor
open Go Go.Dv
open Go.Vc (D eb ec dK bN)
section
variable {L:List Tok}
def gu {α:Type} (f:α→Nat) (x:α):Nat:=f x+1
theorem nj {α:Type} (f:α→Nat):∀l:List α,l.length+(l.map f).sum=aq (gu f) l
 | []=>rfl
 |x::r=>by
  have:=nj f r
  simp only[List.length_cons,List.map_cons,List.sum_cons,aq,gu] at *
  omega
theorem mi (l:List Expr):dL l=aq (gu av) l:=by rw[aC];exact nj _ l
theorem Dh (l:List Query):iO l=aq (gu aW) l:=by rw[d8];exact nj _ l
theorem cE (k o:Int) (n:Bool) (v:Val) (ql nm:ByteArray) (ks:List Expr) (ss:List Query):av (.mk k o n v ql nm ks ss)=v.text.size+ql.size+nm.size+aq (gu av) ks+aq (gu aW) ss:=by
 rw[et,mi,Dh]
 show v.text.size+_=_
 omega
theorem cF (b:Bool) (ql:ByteArray) (e:Expr) (a:ByteArray):kr (.mk b ql e a)=ql.size+av e+a.size:=by rw[oI];omega
theorem bH (tb a:ByteArray) (on:List Expr):dm (.mk tb a on)=tb.size+a.size+aq (gu av) on:=by rw[eG,mi];omega
theorem cm (d:Bool) (it:List Item) (fr:List Source) (wh:List Expr) (od:List SortKey) (li:Int):aW (.mk d it fr wh od li)=aq (gu kr) it+aq (gu dm) fr+aq (gu av) wh+aq (gu fk) od:=by
 rw[f5,mi,f4,nj,eJ,nj,dx,nj];omega
theorem bE:(⟨#[]⟩:ByteArray).size=0:=rfl
theorem xr (h40:∀t∈L,t.text.size≤40) (s:PS):(cH L s).size≤40:=by
 unfold cH
 cases h:jz L s 0 with
 |none=>exact Nat.zero_le _
 |some t=>
  unfold jz at h
  split at h
  ·cases h
  ·exact h40 t (List.mem_of_getElem? h)
theorem kN (h40:∀t∈L,t.text.size≤40) (k:Int) (s:PS):(mText L k s).1.size≤40∧(mText L k s).1.size+64*s.a≤64*(mText L k s).2.a:=by
 have:=xr h40 s
 unfold mText
 split
 ·exact⟨this,by simp only[adv];omega⟩
 ·exact⟨Nat.zero_le _,by show (0:Nat)+_≤_;simp [fl]⟩
theorem DB (h40:∀t∈L,t.text.size≤40) (s:PS):(asM L s).1.size+64*s.a≤64*(asM L s).2.a:=by
 unfold asM
 split
 ·have:=(kN h40 2 (adv s)).2;rw[b8] at this;omega
 ·show (0:Nat)+64*s.a≤64*s.a;omega
theorem wn (h40:∀t∈L,t.text.size≤40) (s:PS):dm (sourceM L s).1+64*s.a≤64*(sourceM L s).2.a:=by
 have h1:=(kN h40 2 s).2
 have h2:=DB h40 (mText L 2 s).2
 unfold sourceM
 rw[bH]
 simp only[aq]
 omega
theorem zZ (x:Source) (e:Expr) (h:∃a b,x = .mk a b []):dm (x.withOn [e])=dm x+av e+1:=by
 obtain⟨a,b,rfl⟩:=h
 simp only[Source.withOn,bH,aq,gu]
 omega
theorem Wt.up {α:Type} {m:PM α} {w:α→Nat} {c:Nat} (h:Wt m w c):Wt m (gu w) (c+1):=fun s x s' hx=>by
 have:=h _ _ _ hx
 show w x+1+_≤_
 omega
variable {f:Nat→PM Expr} {q:PM Query}
theorem Wz.chain {g:PM Expr} (hg:Wt g av 8) (lv:Nat):∀(n:Nat) (e:Expr) (s:PS) (x:Expr) (s':PS),du L g lv n e s=some (x,s')→av x+64*s.a≤av e+64*s'.a
 |0,_,_,_,_,h=>by cases h
 |n+1,e,s,x,s',h=>by
  rw[du] at h
  split at h
  ·injection h with h;injection h with hx h;subst hx h;exact Nat.le_refl _
  ·split at h
   ·cases h
   ·rename_i y s1 h1
    have a1:=hg _ _ _ h1
    have a2:=Wz.chain hg lv n _ _ _ _ h
    (try simp only[bJ,eY,aZ,bM,cg,aK,cE,cF,bH,aH,cm,aq,aJ,gu,b8,cD,dW,z0,bE] at *);omega
theorem Wz.sep {α:Type} {g:PM α} {w:α→Nat} {c:Nat} (hc:c≤64) (hg:Wt g w c):∀(n:Nat) (l:List α) (s:PS) (x:List α) (s':PS),eD L g n l s=some (x,s')→aq w x+64*s.a≤aq w l+64*s'.a
 |0,_,_,_,_,h=>by cases h
 |n+1,l,s,x,s',h=>by
  rw[eD] at h
  split at h
  ·split at h
   ·cases h
   ·rename_i y s1 h1
    have a1:=hg _ _ _ h1
    have a2:=Wz.sep hc hg n _ _ _ _ h
    (try simp only[bJ,eY,aZ,bM,cg,aK,cE,cF,bH,aH,cm,aq,aJ,gu,b8,cD,dW,z0,bE] at *);omega
  ·injection h with h;injection h with hx h;subst hx h;exact Nat.le_refl _
theorem Wz.ors (hf:∀lv,Wt (f lv) av 8):Wt (kx L f) (aq (gu av)) 9:=fun s x s' h=>by
 unfold kx at h
 split at h
 ·cases h
 ·rename_i y s1 h1
  have a1:=hf 1 _ _ _ h1
  have a2:=Wz.sep (by omega) (Wt.up (hf 1)) _ _ _ _ _ h
  (try simp only[bJ,eY,aZ,bM,cg,aK,cE,cF,bH,aH,cm,aq,aJ,gu,b8,cD,dW,z0,bE] at *);omega
theorem Wz.inn (hf:∀lv,Wt (f lv) av 8) (hq:Wt q aW 15) (e:Expr) (n:Bool) (s:PS) (x:Expr) (s':PS) (h:wI L f q e n s=some (x,s')):av x+64*s.a≤av e+40+64*s'.a:=by
 unfold wI at h
 simp only at h
 have m1:=bQ (be L s 40) s
 split at h
 ·split at h
  ·cases h
  ·rename_i y s1 h1
   injection h with h;injection h with hx h;subst hx h
   have a1:=hq _ _ _ h1
   have m2:=bQ (be L s1 41) s1
   (try simp only[bJ,eY,aZ,bM,cg,aK,cE,cF,bH,aH,cm,aq,aJ,gu,b8,cD,dW,z0,bE] at *);omega
 ·split at h
  ·cases h
  ·rename_i y s1 h1
   injection h with h;injection h with hx h;subst hx h
   have a1:=Wz.ors hf _ _ _ h1
   have m2:=bQ (be L s1 41) s1
   (try simp only[bJ,eY,aZ,bM,cg,aK,cE,cF,bH,aH,cm,aq,aJ,gu,b8,cD,dW,z0,bE] at *);omega
theorem Wz.cmpT (hf:∀lv,Wt (f lv) av 8) (hq:Wt q aW 15) (e:Expr) (s:PS) (x:Expr) (s':PS) (h:cmpT L f q e s=some (x,s')):av x+64*s.a≤av e+64*s'.a:=by
 unfold Go.Proofs.YteffjmaadkkmeaaGreatDoor.cmpT at h
 simp only at h
 split at h
 ·injection h with h;injection h with hx h;subst hx h
  have m1:=lO (al L (adv s) 15) (adv s)
  have m2:=bQ (al L (tkIf (al L (adv s) 15) (adv s)) 20) (tkIf (al L (adv s) 15) (adv s))
  (try simp only[bJ,eY,aZ,bM,cg,aK,cE,cF,bH,aH,cm,aq,aJ,gu,b8,cD,dW,z0,bE] at *);omega
 ·have m0:=lO (al L s 15) s
  split at h
  ·split at h
   ·cases h
   ·rename_i y s1 h1
    split at h
    ·cases h
    ·rename_i z s2 h2
     injection h with h;injection h with hx h;subst hx h
     have a1:=hf 5 _ _ _ h1
     have a2:=hf 5 _ _ _ h2
     have m2:=bQ (al L s1 13) s1
     (try simp only[bJ,eY,aZ,bM,cg,aK,cE,cF,bH,aH,cm,aq,aJ,gu,b8,cD,dW,z0,bE] at *);omega
  ·split at h
   ·have a1:=Wz.inn hf hq e _ _ _ _ h
    (try simp only[bJ,eY,aZ,bM,cg,aK,cE,cF,bH,aH,cm,aq,aJ,gu,b8,cD,dW,z0,bE] at *);omega
   ·injection h with h;injection h with hx h;subst hx h
    show av e+64*s.a≤av e+64*(tkIf (al L s 15) s).a
    omega
theorem Wz.cmp (hf:∀lv,Wt (f lv) av 8) (hq:Wt q aW 15):Wt (mr L f q) av 8:=fun s x s' h=>by
 unfold mr at h
 split at h
 ·cases h
 ·rename_i y s1 h1
  have a1:=hf 5 _ _ _ h1
  split at h
  ·have a2:=Wz.cmpT hf hq _ _ _ _ h
   omega
  ·split at h
   ·cases h
   ·rename_i z s2 h2
    injection h with h;injection h with hx h;subst hx h
    have a2:=hf 5 _ _ _ h2
    (try simp only[bJ,eY,aZ,bM,cg,aK,cE,cF,bH,aH,cm,aq,aJ,gu,b8,cD,dW,z0,bE] at *);omega
theorem Wz.prim (h40:∀t∈L,t.text.size≤40) (hf:∀lv,Wt (f lv) av 8) (hq:Wt q aW 15):Wt (gv L f q) av 8:=fun s x s' h=>by
 have x40:=xr h40 s
 unfold gv at h
 simp only at h
 split at h
 ·injection h with h;injection h with hx h;subst hx h;(try simp only[bJ,eY,aZ,bM,cg,aK,cE,cF,bH,aH,cm,aq,aJ,gu,b8,cD,dW,z0,bE] at *);omega
 split at h
 ·injection h with h;injection h with hx h;subst hx h;(try simp only[bJ,eY,aZ,bM,cg,aK,cE,cF,bH,aH,cm,aq,aJ,gu,b8,cD,dW,z0,bE] at *);omega
 split at h
 ·injection h with h;injection h with hx h;subst hx h;(try simp only[bJ,eY,aZ,bM,cg,aK,cE,cF,bH,aH,cm,aq,aJ,gu,b8,cD,dW,z0,bE] at *);omega
 split at h
 ·injection h with h;injection h with hx h;subst hx h;(try simp only[bJ,eY,aZ,bM,cg,aK,cE,cF,bH,aH,cm,aq,aJ,gu,b8,cD,dW,z0,bE] at *);omega
 split at h
 ·injection h with h;injection h with hx h;subst hx h;(try simp only[bJ,eY,aZ,bM,cg,aK,cE,cF,bH,aH,cm,aq,aJ,gu,b8,cD,dW,z0,bE] at *);omega
 split at h
 ·split at h
  ·injection h with h;injection h with hx h;subst hx h
   have m1:=(kN h40 2 (adv (adv s))).2
   (try simp only[bJ,eY,aZ,bM,cg,aK,cE,cF,bH,aH,cm,aq,aJ,gu,b8,cD,dW,z0,bE] at *);omega
  ·injection h with h;injection h with hx h;subst hx h;(try simp only[bJ,eY,aZ,bM,cg,aK,cE,cF,bH,aH,cm,aq,aJ,gu,b8,cD,dW,z0,bE] at *);omega
 split at h
 ·split at h
  ·cases h
  ·rename_i y s1 h1
   injection h with h;injection h with hx h;subst hx h
   have a1:=hf 1 _ _ _ h1
   have m1:=bQ (be L s1 41) s1
   (try simp only[bJ,eY,aZ,bM,cg,aK,cE,cF,bH,aH,cm,aq,aJ,gu,b8,cD,dW,z0,bE] at *);omega
 split at h
 ·split at h
  ·cases h
  ·rename_i y s1 h1
   injection h with h;injection h with hx h;subst hx h
   have a1:=hq _ _ _ h1
   have m1:=bQ (be L (adv s) 40) (adv s)
   have m2:=bQ (be L s1 41) s1
   (try simp only[bJ,eY,aZ,bM,cg,aK,cE,cF,bH,aH,cm,aq,aJ,gu,b8,cD,dW,z0,bE] at *);omega
 ·injection h with h;injection h with hx h;subst hx h;(try simp only[bJ,eY,aZ,bM,cg,aK,cE,cF,bH,aH,cm,aq,aJ,gu,b8,cD,dW,z0,bE] at *);omega
theorem Wz.stepE (h40:∀t∈L,t.text.size≤40) (hf:∀lv,Wt (f lv) av 8) (hq:Wt q aW 15) (lv:Nat):Wt (stepE L f q lv) av 8:=fun s x s' h=>by
 unfold Go.Proofs.YteffjmaadkkmeaaGreatDoor.stepE at h
 split at h
 ·split at h
  ·split at h
   ·cases h
   ·rename_i y s1 h1
    injection h with h;injection h with hx h;subst hx h
    have a1:=hf 3 _ _ _ h1
    (try simp only[bJ,eY,aZ,bM,cg,aK,cE,cF,bH,aH,cm,aq,aJ,gu,b8,cD,dW,z0,bE] at *);omega
  ·exact hf 4 _ _ _ h
 split at h
 ·exact Wz.cmp hf hq _ _ _ h
 split at h
 ·split at h
  ·split at h
   ·cases h
   ·rename_i y s1 h1
    injection h with h;injection h with hx h;subst hx h
    have a1:=hf 8 _ _ _ h1
    (try simp only[bJ,eY,aZ,bM,cg,aK,cE,cF,bH,aH,cm,aq,aJ,gu,b8,cD,dW,z0,bE] at *);omega
  ·exact hf 9 _ _ _ h
 split at h
 ·exact Wz.prim h40 hf hq _ _ _ h
 ·split at h
  ·cases h
  ·rename_i y s1 h1
   have a1:=hf _ _ _ _ h1
   have a2:=Wz.chain (hf _) lv _ _ _ _ _ h
   omega
theorem Wz.item (h40:∀t∈L,t.text.size≤40) (hf:∀lv,Wt (f lv) av 8):Wt (fY L f) kr 11:=fun s x s' h=>by
 have x40:=xr h40 s
 unfold fY at h
 split at h
 ·injection h with h;injection h with hx h;subst hx h
  (try simp only[bJ,eY,aZ,bM,cg,aK,cE,cF,bH,aH,cm,aq,aJ,gu,b8,cD,dW,z0,bE] at *);omega
 split at h
 ·injection h with h;injection h with hx h;subst hx h
  (try simp only[bJ,eY,aZ,bM,cg,aK,cE,cF,bH,aH,cm,aq,aJ,gu,b8,cD,dW,z0,bE] at *);omega
 split at h
 ·cases h
 ·rename_i y s1' h1
  injection h with h;injection h with hx h;subst hx h
  have a1:=hf 1 _ _ _ h1
  have m1:=DB h40 s1'
  rw[cF]
  show (0:Nat)+_+_+_≤_
  omega
theorem Wz.sources (h40:∀t∈L,t.text.size≤40) (hf:∀lv,Wt (f lv) av 8):∀(n:Nat) (l:List Source) (s:PS) (x:List Source) (s':PS),cN L f n l s=some (x,s')→aq (gu dm) x+64*s.a≤aq (gu dm) l+64*s'.a
 |0,_,_,_,_,h=>by cases h
 |n+1,l,s,x,s',h=>by
  rw[cN] at h
  have m1:=wn h40 (adv s)
  split at h
  ·have a2:=Wz.sources h40 hf n _ _ _ _ h
   (try simp only[bJ,eY,aZ,bM,cg,aK,cE,cF,bH,aH,cm,aq,aJ,gu,b8,cD,dW,z0,bE] at *);omega
  simp only at h
  split at h
  ·split at h
   ·cases h
   ·rename_i y s1 h1
    have a1:=hf 1 _ _ _ h1
    have m2:=bQ (al L (sourceM L (adv s)).2 5) (sourceM L (adv s)).2
    have a2:=Wz.sources h40 hf n _ _ _ _ h
    have w2:=zZ (sourceM L (adv s)).1 y ⟨_,_,rfl⟩
    (try simp only[bJ,eY,aZ,bM,cg,aK,cE,cF,bH,aH,cm,aq,aJ,gu,b8,cD,dW,z0,bE] at *);omega
  ·injection h with h;injection h with hx h;subst hx h;exact Nat.le_refl _
theorem Wz.wher (hf:∀lv,Wt (f lv) av 8):Wt (eM L f) (aq (gu av)) 0:=fun s x s' h=>by
 unfold eM at h
 split at h
 ·split at h
  ·cases h
  ·rename_i y s1 h1
   injection h with h;injection h with hx h;subst hx h
   have a1:=hf 1 _ _ _ h1
   (try simp only[bJ,eY,aZ,bM,cg,aK,cE,cF,bH,aH,cm,aq,aJ,gu,b8,cD,dW,z0,bE] at *);omega
 ·injection h with h;injection h with hx h;subst hx h;(try simp only[bJ,eY,aZ,bM,cg,aK,cE,cF,bH,aH,cm,aq,aJ,gu,b8,cD,dW,z0,bE] at *);omega
theorem sW (e:Expr) (d:Bool):fk (.mk e d)=av e:=aH e d
theorem Wz.sort (hf:∀lv,Wt (f lv) av 8):Wt (fZ L f) fk 9:=fun s x s' h=>by
 unfold fZ at h
 split at h
 ·cases h
 ·rename_i y s1 h1
  have a1:=hf 1 _ _ _ h1
  split at h
  ·injection h with h;injection h with hx h;subst hx h
   rw[sW,b8]
   omega
  ·injection h with h;injection h with hx h;subst hx h
   have m1:=lO (al L s1 10) s1
   rw[sW]
   omega
theorem Wz.order (hf:∀lv,Wt (f lv) av 8):Wt (g7 L f) (aq (gu fk)) 0:=fun s x s' h=>by
 unfold g7 at h
 simp only at h
 split at h
 ·split at h
  ·cases h
  ·rename_i y s1 h1
   have m1:=bQ (al L (adv s) 8) (adv s)
   have a1:=Wz.sort hf _ _ _ h1
   have a2:=Wz.sep (by omega) (Wt.up (Wz.sort hf)) _ _ _ _ _ h
   (try simp only[bJ,eY,aZ,bM,cg,aK,cE,cF,bH,aH,cm,aq,aJ,gu,b8,cD,dW,z0,bE] at *);omega
 ·injection h with h;injection h with hx h;subst hx h;(try simp only[bJ,eY,aZ,bM,cg,aK,cE,cF,bH,aH,cm,aq,aJ,gu,b8,cD,dW,z0,bE] at *);omega
theorem Wz.items (h40:∀t∈L,t.text.size≤40) (hf:∀lv,Wt (f lv) av 8):Wt (gb L f) (aq (gu kr)) 12:=fun s x s' h=>by
 unfold gb at h
 split at h
 ·cases h
 ·rename_i y s1 h1
  have a1:=Wz.item h40 hf _ _ _ h1
  have a2:=Wz.sep (by omega) (Wt.up (Wz.item h40 hf)) _ _ _ _ _ h
  (try simp only[bJ,eY,aZ,bM,cg,aK,cE,cF,bH,aH,cm,aq,aJ,gu,b8,cD,dW,z0,bE] at *);omega
theorem Wz.stepQ (h40:∀t∈L,t.text.size≤40) (hf:∀lv,Wt (f lv) av 8):Wt (stepQ L f) aW 15:=fun s x s' h=>by
 unfold Go.Proofs.YteffjmaadkkmeaaGreatDoor.stepQ at h
 simp only at h
 split at h
 ·cases h
 rename_i its s2 h1
 split at h
 ·cases h
 rename_i frs s4 h2
 split at h
 ·cases h
 rename_i wh s5 h3
 split at h
 ·cases h
 rename_i od s6 h4
 injection h with h;injection h with hx h;subst hx h
 have m1:=bQ (al L s 1) s
 have m2:=lO (al L (must (al L s 1) s) 2) (must (al L s 1) s)
 have a1:=Wz.items h40 hf _ _ _ h1
 have m3:=bQ (al L s2 3) s2
 have m4:=wn h40 (must (al L s2 3) s2)
 have a2:=Wz.sources h40 hf _ _ _ _ _ h2
 have a3:=Wz.wher hf _ _ _ h3
 have a4:=Wz.order hf _ _ _ h4
 have m5:=wj (L:=L) s6
 (try simp only[bJ,eY,aZ,bM,cg,aK,cE,cF,bH,aH,cm,aq,aJ,gu,b8,cD,dW,z0,bE] at *);omega
theorem ra (h40:∀t∈L,t.text.size≤40):∀k,(∀lv,Wt ((pP L k).1 lv) av 8)∧Wt (pP L k).2 aW 15
 |0=>⟨fun _ _ _ _ h=>(by cases h),fun _ _ _ h=>(by cases h)⟩
 |k+1=>⟨fun lv=>Wz.stepE h40 (ra h40 k).1 (ra h40 k).2 lv,Wz.stepQ h40 (ra h40 k).1⟩
end
theorem sX {t:Tok} (h:cj t=true):t.text.size≤40:=by
 unfold cj at h
 split at h
 ·simp only[Bool.and_eq_true,decide_eq_true_eq] at h
  have:¬ 8<t.text.size:=fun hl=>h.1 (uz hl)
  omega
 split at h
 ·have:=of_decide_eq_true h;omega
 split at h
 ·unfold nx at h
  obtain⟨m,hm⟩:=Option.isSome_iff_exists.1 h
  obtain⟨h1,h2⟩:=fP.1 hm
  have:=fE m 18 (by omega)
  rw[h2,bS] at this
  omega
 split at h
 ·exact of_decide_eq_true h
 split at h
 ·unfold ii at h
  rw[List.any_eq_true] at h
  obtain⟨x,hx,he⟩:=h
  rw[of_decide_eq_true he]
  exact Nat.le_trans ((by decide:∀s∈signs,s.size≤2) x hx) (by omega)
 ·cases h
theorem hY {s:ByteArray} {L:List Tok} (h:gi s = .inl L):L.length≤2000∧∀t∈L,cj t=true:=by
 unfold gi at h
 split at h
 ·cases h
 ·obtain⟨rr,hrr⟩:=pJ (B:=s.data.toList) (s.data.toList.length+1) 0 [] (by omega) (by omega)
  rw[hrr] at h
  have h:rr = .inl L:=h
  subst h
  have:=sa (by omega) hrr (fun t ht=>by cases ht)
  rw[bS] at this
  simp only[List.length_nil] at this
  exact⟨by omega,this.1⟩
def iy (L:List Tok) (n:Nat) (i:Int):Int:=if i<L.length then (L.getD i.toNat ⟨0,z0,0⟩).at_ else n
def fK (L:List Tok) (n:Nat) (i:Int) (ok:Bool):Int×Int:=if 0≤i then (2,iy L n i) else if ok=true then (0,0) else (3,0)
def fj {α:Type} (z:α) (take:List Tok→α×Int) (ok:α→Bool) (s:ByteArray):α×(Int×Int):=match gi s with
 |.inr p=>(z,(1,p))
 |.inl L=>(if 0≤(take L).2 then z else if ok (take L).1=true then (take L).1 else z,fK L s.size (take L).2 (ok (take L).1))
def cx (f:Int×Int):List C:=[.v (.int .i64 f.1),.v (.int .i64 f.2)]
theorem nl (L:List Tok) (hL:L.length≤1048576) (hT:∀t∈L,t.text.size≤1048576) (i:Int) (h0:0≤i) (s:ByteArray):Cl Tryz.prog 73 [.c (.sl L.length (L.flatMap Tok.row) none),vi i,vs s] [] fun r _=>r = .ag (cx (2,iy L s.size i)):=by
 obtain⟨j,rfl⟩:∃j:Nat,i=j:=⟨i.toNat,by omega⟩
 refine ab aa false Tryz.func73 rfl (by kernel_rfl) ?_
 simp only[Tryz.f73,tt,seval]
 refine fun _=>And.intro (fun hlt=>?_) (fun hge=>?_)
 ·have hl:j<L.length:=by omega
  have hx:L[j]?=some L[j]:=List.getElem?_eq_getElem hl
  have e:iy L s.size j=(L[j]).at_:=by
   unfold iy
   rw[if_pos hlt,Int.toNat_natCast,List.getD_eq_getElem?_getD,hx];rfl
  have i0:((0:Int)≤(j:Int))=True:=eq_true (by omega)
  have iL:((j:Int)<(L.length:Int))=True:=eq_true hlt
  have iT:(j<L.length)=True:=eq_true hl
  rw[e]
  generalize L[j]=tk at *
  simp only[tt,seval,aN hx Tok.row_len,i0,iL,iT,Tok.row]
  refine⟨.ag (cx (2,tk.at_)),[],rfl,aj ?_⟩
  simp only[tt,seval,cx]
 ·have e:iy L s.size j=s.size:=by unfold iy;rw[if_neg hge]
  rw[e]
  refine fun _=>?_
  refine⟨.ag (cx (2,(s.size:Nat))),[],rfl,aj ?_⟩
  simp only[tt,seval,cx]
end Go.Proofs.YteffjmaadkkmeaaGreatDoor
set_option maxRecDepth 8000
namespace Go.Proofs.YteffjmaadkkmeaaGreatDoor
open Go Go.Dv Go.Cv
open Go.Vc (D eb ec dK bN)
theorem rb {L:List Tok} {α:Type} (z x:α) (s:PS) (ha:s.a≤L.length):((dC L z (some (x,s))).2 = -1∨0≤(dC L z (some (x,s))).2)∧(dC L z (some (x,s))).2≤L.length:=by
 unfold dC
 simp only
 split
 ·rename_i h
  refine⟨.inr h,?_⟩
  show iQ L s≤_
  unfold iQ
  split<;>omega
 ·exact⟨.inl rfl,by show (-1:Int)≤_;omega⟩
theorem C3 {L:List Tok}:((cn L).2 = -1∨0≤(cn L).2)∧(cn L).2≤L.length:=by
 obtain⟨x,s,h⟩:=jQ (L:=L) 1 (by omega) (by omega) s0
 have ha:=(ey (L:=L) 1 _ _ _ h).2.1 (Nat.zero_le _)
 unfold cn
 rw[h];exact rb _ _ _ ha
theorem C5 {L:List Tok}:((cv L).2 = -1∨0≤(cv L).2)∧(cv L).2≤L.length:=by
 obtain⟨x,s,h⟩:=qj (f:=iP L) (fun lv=>ey (L:=L) lv) (fun s=>jQ 1 (by omega) (by omega) s) (fun s=>fQ s) s0
 have ha:=(OkM.stmt (fun lv=>ey (L:=L) lv) ez _ _ _ h).2.1 (Nat.zero_le _)
 unfold cv
 rw[h];exact rb _ _ _ ha
end Go.Proofs.YteffjmaadkkmeaaGreatDoor
set_option maxRecDepth 8000
namespace Go.Proofs.YteffjmaadkkmeaaGreatDoor
open Go Go.Dv
open Go.Vc (D eb ec dK bN)
open Go.Cv
open Go.Vc (CellF ValsF aV Cells)
theorem ox {P:Program} {w w':World} {cs:List C} {ds es:List D} {F:List (List Nat)} {v:Value} (ht:Td cs ds F) (hp:fpL (an es)=[]) (h:Go.Cv.Res P w w' (.tu [(cs,false),(an es,false)]) v):∃vs us G H,v = .tuple #[.agg (vs:List Value).toArray,.agg (us:List Value).toArray]∧ValsF w' ds vs G∧New w w' G∧ValsF w' es us H:=by
 obtain⟨β,ok,h,hno,hobj,hnew,hnd,hfr⟩:=h
 simp only[expS,nS,ht.exp,lS] at h
 obtain⟨ys,rfl,h⟩:=h
 have hf:fps (.tu [(cs,false),(an es,false)]) []=F:=by simp [fps,bt,ui,ht.fp,hp,y3]
 rw[hf] at hnd hfr
 match ys,h with
 | [y,z],h=>
  obtain⟨h1,h2,_⟩:=h
  obtain⟨vs,rfl,h1⟩:∃vs:List Value,y = .agg vs.toArray∧_:=h1
  obtain⟨us,rfl,h2⟩:∃us:List Value,z = .agg us.toArray∧_:=h2
  obtain⟨G,hG,hok,hs⟩:=jX ht.dat h1
  obtain⟨H,hH⟩:=iC (fun _ _ _ _=>trivial) h2
  exact⟨vs,us,G,H,rfl,hG,⟨(hs _ rfl).nodup hnd,fun b hb=>(hfr b ((hs _ rfl).mem hb)).1,fun b hb=>(hfr b ((hs _ rfl).mem hb)).2⟩,hH⟩
 | [],h=>exact h.elim
 | [_],h=>exact h.2.elim
 |_::_::_::_,h=>exact h.2.2.elim
theorem yO {P:Program} {w w':World} {ds es:List D} {v:Value} (h:Go.Cv.Res P w w' (.tu [(an ds,false),(an es,false)]) v):∃vs us G H,v = .tuple #[.agg (vs:List Value).toArray,.agg (us:List Value).toArray]∧ValsF w' ds vs G∧ValsF w' es us H:=by
 obtain⟨β,ok,h,_⟩:=h
 simp only[expS,nS,lS] at h
 obtain⟨ys,rfl,h⟩:=h
 match ys,h with
 | [y,z],h=>
  obtain⟨h1,h2,_⟩:=h
  obtain⟨vs,rfl,h1⟩:∃vs:List Value,y = .agg vs.toArray∧_:=h1
  obtain⟨us,rfl,h2⟩:∃us:List Value,z = .agg us.toArray∧_:=h2
  obtain⟨G,hG⟩:=iC (fun _ _ _ _=>trivial) h1
  obtain⟨H,hH⟩:=iC (fun _ _ _ _=>trivial) h2
  exact⟨vs,us,G,H,rfl,hG,hH⟩
 | [],h=>exact h.elim
 | [_],h=>exact h.2.elim
 |_::_::_::_,h=>exact h.2.2.elim
def EJ (f:Int×Int):List D:=[int f.1,int f.2]
theorem C6 (f:Int×Int):cx f=an (EJ f):=rfl
theorem mj (f:Int×Int):(EJ f).length=2:=rfl
theorem ml (f:Int×Int):Cl Tryz.prog 31 [.ag (an (EJ f)),.ag (an (EJ f))] [] fun r _=>r=vb true:=by
 refine ab aa false Tryz.func31 rfl (by kernel_rfl) ?_
 simp only[Tryz.f31,tt,seval]
 simp only[tt,seval,EJ]
 exact⟨_,_,rfl,ac rfl⟩
theorem kl {w:World} {b b':Nat} {o:Option Obj} {x:Array Value} (h:w.heap[b']?=o) (hne:b≠b'):(w.setRow b x).heap[b']?=o:=by
 simp only[World.setRow,Array.getElem?_modify,if_neg hne]
 exact h
theorem iG {w w1 w2 w3 w4:World} {b b':Nat} {t t':TypeId} {z vs z' us:List Value} (hb:b=w.heap.size) (h1:w1=w.alloc (.cells z.toArray t)) (hb':b'=w1.heap.size) (h2:w2=w1.alloc (.cells z'.toArray t')) (h3:w2.setRow b vs.toArray=w3) (h4:w3.setRow b' us.toArray=w4) (hl:vs.length=z.length) (hl':us.length=z'.length):w4.heap[b]?=some (.cells vs.toArray t (0,0))∧w4.heap[b']?=some (.cells us.toArray t' (0,0))∧Gr w w4:=by
 obtain⟨k1,g1⟩:=bz hb h1
 obtain⟨k2,g2⟩:=bz hb' h2
 have hlt:b<w1.heap.size:=ig k1
 have hne:b≠b':=by omega
 have e1:w3.heap[b]?=some (.cells vs.toArray t (0,0)):=by rw[←h3];exact setRow_heap w2 b _ _ t _ (g2.box k1)
 have e2:w3.heap[b']?=some (.cells z'.toArray t' (0,0)):=by
  rw[←h3]
  simp only[World.setRow,Array.getElem?_modify,if_neg hne]
  exact k2
 have f1:w4.heap[b]?=some (.cells vs.toArray t (0,0)):=by
  rw[←h4]
  simp only[World.setRow,Array.getElem?_modify,if_neg (Ne.symm hne)]
  exact e1
 refine⟨f1,by rw[←h4];exact setRow_heap w3 b' _ _ t' _ e2,?_⟩
 subst h4 h3
 refine⟨Nat.le_trans g1.size (Nat.le_trans g2.size (by simp [World.setRow])),fun x hx=>?_,by rw[←g1.os,←g2.os];rfl,by rw[←g1.tape,←g2.tape];rfl,by rw[←g1.output,←g2.output];rfl⟩
 rw[←g1.keep x hx,←g2.keep x (Nat.lt_of_lt_of_le hx g1.size)]
 have n1:b≠x:=by omega
 have n2:b'≠x:=by have:=g1.size;omega
 simp [World.setRow,Array.getElem?_modify,n1,n2]
end Go.Proofs.YteffjmaadkkmeaaGreatDoor
