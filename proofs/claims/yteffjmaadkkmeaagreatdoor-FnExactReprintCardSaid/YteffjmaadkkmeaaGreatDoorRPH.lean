/-
  Parsing sources; what the rows read.
  Conditions: none.
-/
import Derived.Test.YteffjmaadkkmeaaGreatDoorRPC2
import Derived.Test.YteffjmaadkkmeaaGreatDoorRPD2
import Derived.Test.YteffjmaadkkmeaaGreatDoorRPE
import Derived.Test.YteffjmaadkkmeaaGreatDoorRPG
import Derived.Test.YteffjmaadkkmeaaGreatDoorRows
import Derived.Test.YteffjmaadkkmeaaGreatDoorTie
import Derived.Test.YteffjmaadkkmeaaGreatDoorCards
import Derived.ProofKit
import Derived.OpenShut
import Derived.Lib.LaidTab
import Derived.Stop.LaidErr
import Derived.MakeChecks
import Derived.Lay
import Derived.SevenTiedAt
import Derived.RowKitTokens
set_option linter.unusedVariables false
set_option linter.unusedSimpArgs false
set_option linter.unusedSectionVars false
set_option maxRecDepth 8000
namespace Go.Dv
open Go Go.ChangeShapes Go.WideShapes
theorem kW {H:Type} {enc:TypeId×Value->H} {a:Assume} {C:Checked} {os:Os} {f:FuncId} {fn:Func} {s:ChangeSpec} {conds:List PathCond} {apart fresh handsOn again:Bool} {X:World->Array Value->Prop}
 (hX:∀(w w':World) (args:Array Value),w.heap=w'.heap->X w args->X w' args)
 (own:ownKnob C.prog.godebug=none) (started:os.Started) (noInit:C.prog.inits.idxOf? f=none) (hfn:C.prog.funcs[f]?=some fn)
 (witness:∃(w:World) (tape:Tape) (i:Input),w.os=os/\(w.forCall tape i).Shaped C.prog/\i.vars=[]/\Input.okWide C.prog (w.forCall tape i) .any w.heap.size f i /\
   ((s.pre enc C.prog fn conds apart (w.forCall tape i).memory i.args/\X (w.forCall tape i).memory i.args)/\sizedMet enc C.prog fn (OpenSpec.ofChange s) apart (w.forCall tape i).memory i.args)/\a.holds C.prog (lone (Frame.enter C.prog f i.args .normal) [] (w.forCall tape i)))
 (contract:∀(W:World) (base:Nat) (args:Array Value) (ds gs:List (DataW H)) (before:List MemPlace),
   (∀(j:Nat) t v,fn.params[j]?=some t->args[j]?=some v->Value.okWide C.prog W .any base t v) ->
   DataW.Whole enc C.prog fn.params.toList s.vars apart W args.toList ds gs before ->
   conds.all (PathCond.test C.prog ⟨fn.params.toList,ds,s.plain.varTypes C.prog,gs⟩)=true ->
   X W args->W.ShapedOpen C.prog ->
   Calls C.prog f args W fun e W'=>∃v,e = .returned v/\s.post enc C.prog fn apart fresh handsOn again W args v W') :
 ReturnsInHanded a C os f .any (fun w args=>(s.pre enc C.prog fn conds apart w args/\X w args)/\sizedMet enc C.prog fn (OpenSpec.ofChange s) apart w args) (s.post enc C.prog fn apart fresh handsOn again):=by
 refine returnsInHanded_of_calls own started noInit witness ?_
 intro w tape i _ hsh _ hok hpre hholds
 obtain⟨_,_,_,fn',hfn',_,_,_,_,hval⟩:=hok
 have e:fn'=fn:=Option.some.inj (hfn'.symm.trans hfn)
 subst e
 obtain⟨⟨⟨ds,gs,before,hw,hc⟩,hx⟩,_⟩:=hpre
 have hw':=DataW.Whole.of_heap (w':=w.forCall tape i) (by rfl) hw
 refine (contract (w.forCall tape i) w.heap.size i.args ds gs before hval hw' hc (hX _ _ _ (by rfl) hx) hsh).mono fun e W' ⟨v,he,hp⟩=>?_
 subst he
 exact ChangeSpec.post_blind hp
theorem Bv {H:Type} {enc:TypeId×Value->H} {P:Program} {f:Func} {s:ChangeSpec} {apart fresh handsOn again:Bool} {W W':World} {args:Array Value} {v:Value} {ds gs:List (DataW H)} {before pa pv:List MemPlace}
 (hW:DataW.Whole enc P f.params.toList s.vars apart W args.toList ds gs before)
 (hres:∀(b:Nat) (sp:Nat->Bool) (hd:Bool),DataW.TrodAll enc P W' b sp hd f.resultTypes.toList (v.resultList f.resultTypes.size) (s.fn H (ds++gs)).results [])
 (hargs:∀sp:Nat->Bool,(∀p∈before,sp p.block=true)->DataW.TrodAll enc P W' 0 sp true f.params.toList args.toList (s.fn H (ds++gs)).args pa)
 (hvars:∀sp:Nat->Bool,(∀p∈before,sp p.block=true)->DataW.TrodVars enc P W' sp s.vars (s.fn H (ds++gs)).vars pv)
 (hps:before=pa++pv) (hk:W.keptBut W' (· ∈ before)) (hfz:∀a:Addr,a.block<W.heap.size->W'.frozen? a=W.frozen? a)
 (hok:∀(j:Nat) (t:TypeId) (r:Value),f.resultTypes[j]?=some t->(v.resultList f.resultTypes.size)[j]?=some r->Value.okWide P W' .any 0 t r) :
 s.post enc P f apart fresh handsOn again W args v W':=by
 have hold:∀p∈before,(fun b=>decide (b<W.heap.size)) p.block=true:=fun p hp=>by simpa using hW.lt p hp
 have hlt:∀p∈before,p.block<W.heap.size:=fun p hp=>hW.lt p hp
 refine⟨ds,gs,before,[],pa,pv,hW,hres _ _ _,hargs _ hold,hvars _ hold,World.keptBut_mono (fun p hp=>⟨hp,?_⟩) hk,fun _=>?_⟩
 ·rw[hps,List.mem_append] at hp
  exact Or.inr hp
 ·obtain⟨_,_,_,_,_,hz,hn⟩:=hW
  refine⟨hok,_,_,([]++pa)++pv,⟨[]++pa,pv,trodAll_append (hargs _ (fun _ _=>rfl)) (hres _ _ _),hvars _ (fun _ _=>rfl),rfl,?_,?_⟩,?_⟩
  ·intro b off hp
   have hp':MemPlace.cell b off∈before:=by rw[hps];simpa using hp
   rw[hfz ⟨b,off,none⟩ (hlt _ hp')]
   exact hz b off hp'
  ·intro ha
   have:=hn ha
   rw[hps] at this
   simpa using this
  ·intro p hp _
   rw[hps]
   simpa using hp
theorem Eb {P:Program} {W:World} {t tp4 tp5:TypeId} {zero:Array Value} {n1 n4 n5:String} {a4 a5:Value} (h1:P.globalNamed n1=some 3) (ht:Lib.TabIs P W n1 .u64 Lib.pow10Tab)
 (h:W.ShapedOpen P) (hg:0<P.globals.size) (hr:((begin P (fun _ _=>0) default).world.heap[0]?).bind Obj.row?=some (zero,t)) (hz:zero.size=1)
 (hb:P.buildable t=true) (hc:P.cellTypes P.depth t=some [t]) (hu:P.underlying t=some (.int .i64))
 (g4:P.globalNamed n4=some 1) (v4:W.var? P n4=some #[.iface tp4 a4]) (g5:P.globalNamed n5=some 2) (v5:W.var? P n5=some #[.iface tp5 a5]):GlW W (fun _=>False):=by
 intro x hx
 simp only[x8,List.mem_cons,List.not_mem_nil,or_false] at hx
 rcases hx with rfl|rfl|rfl|rfl
 ·refine⟨id,?_⟩
  unfold Lib.TabIs World.var? at ht
  rw[h1,Option.bind_some] at ht
  split at ht
  ·rename_i cs ty lh hh
   exact⟨cs,ty,lh,hh,Option.some.inj ht⟩
  ·cases ht
 ·refine⟨id,?_⟩
  obtain⟨m,hm⟩:=Go.Proofs.cell_of_shapedOpen_int h hg hr hz hb hc hu
  unfold World.cell? at hm
  simp only at hm
  split at hm
  ·rename_i cs ty lh hh
   exact⟨cs,ty,lh,hh,m,hm⟩
  ·cases hm
 ·refine⟨id,?_⟩
  unfold World.var? at v4
  rw[g4,Option.bind_some] at v4
  split at v4
  ·rename_i cs ty lh hh
   obtain rfl:=Option.some.inj v4
   exact⟨_,ty,lh,hh,_,rfl,.inr ⟨_,_,rfl⟩⟩
  ·cases v4
 ·refine⟨id,?_⟩
  unfold World.var? at v5
  rw[g5,Option.bind_some] at v5
  split at v5
  ·rename_i cs ty lh hh
   obtain rfl:=Option.some.inj v5
   exact⟨_,ty,lh,hh,_,rfl,.inr ⟨_,_,rfl⟩⟩
  ·cases v5
end Go.Dv
namespace Go.Proofs.YteffjmaadkkmeaaGreatDoor
open Go Go.Dv Go.ChangeShapes Go.WideShapes Go.ChangeAt Go.RowKit
open Go.Vc (D CellF ValsF wK s8 BM)
section
variable {H:Type} {enc:TypeId×Value->H} {W:World} {base:Nat} {sp:Nat->Bool} {held:Bool}
theorem Bw:Tryz.prog.cellsOf 9=1:=by kernel_rfl
end
theorem own:ownKnob Tryz.prog.godebug=none:=by kernel_rfl
theorem D0:laidOutB Tryz.prog=true:=by kernel_rfl
theorem star : "*" ++ "errors.errorString" = "*errors.errorString" := by decide
theorem Bx (u:TypeId) (h:Tryz.prog.typeName? 3 u=some "*errors.errorString"):u=273:=
 typeName_ptr_named (nm := "errors.errorString") (by rw[star];kernel_rfl) (by kernel_rfl) (by decide) u (by rw[star];exact h)
theorem vq:Tryz.prog.cellsOf 275=1:=by kernel_rfl
theorem yX {W W':World} (g:Go.Cv.Gr W W'):∀a:Addr,a.block<W.heap.size->W'.frozen? a=W.frozen? a:=fun a ha=>by
 unfold World.frozen?
 rw[g.keep a.block ha]
end Go.Proofs.YteffjmaadkkmeaaGreatDoor
set_option maxRecDepth 8000
namespace Go.Proofs.YteffjmaadkkmeaaGreatDoor
open Go Go.Dv
open Go.Vc (D cY d3 cN bk)
section
variable {L:List Tok}
def iN {α:Type} (f:α->Nat) (x:α):Nat:=f x+1
theorem mz {α:Type} (f:α->Nat):∀l:List α,l.length+(l.map f).sum=dZ (iN f) l
 | []=>rfl
 |x::r=>by
  have:=mz f r
  simp only[List.length_cons,List.map_cons,List.sum_cons,dZ,iN] at *
  omega
theorem lu (l:List Expr):cT l=dZ (iN aw) l:=by rw[az];exact mz _ l
theorem D1 (l:List Query):gP l=dZ (iN aP) l:=by rw[cg];exact mz _ l
theorem dK (k o:Int) (n:Bool) (v:Val) (ql nm:ByteArray) (ks:List Expr) (ss:List Query):aw (.mk k o n v ql nm ks ss)=v.text.size+ql.size+nm.size+dZ (iN aw) ks+dZ (iN aP) ss:=by
 rw[dq,lu,D1]
 show v.text.size+_=_
 omega
theorem wA (b:Bool) (ql:ByteArray) (e:Expr) (a:ByteArray):jo (.mk b ql e a)=ql.size+aw e+a.size:=by rw[nP];omega
theorem xY (tb a:ByteArray) (on:List Expr):bW (.mk tb a on)=tb.size+a.size+dZ (iN aw) on:=by rw[cI,lu];omega
theorem Bz (d:Bool) (it:List Item) (fr:List Source) (wh:List Expr) (od:List SortKey) (li:Int):aP (.mk d it fr wh od li)=dZ (iN jo) it+dZ (iN bW) fr+dZ (iN aw) wh+dZ (iN eu) od:=by
 rw[dc,lu,db,mz,cc,mz,bK,mz];omega
theorem bO:(⟨#[]⟩:ByteArray).size=0:=rfl
theorem wC (h40:∀t∈L,t.text.size<=40) (s:PS):(bI L s).size<=40:=by
 unfold bI
 cases h:iD L s 0 with
 |none=>exact Nat.zero_le _
 |some t=>
  unfold iD at h
  split at h
  ·cases h
  ·exact h40 t (List.mem_of_getElem? h)
theorem jH (h40:∀t∈L,t.text.size<=40) (k:Int) (s:PS):(mText L k s).1.size<=40/\(mText L k s).1.size+64*s.a<=64*(mText L k s).2.a:=by
 have:=wC h40 s
 unfold mText
 split
 ·exact⟨this,by simp only[adv];omega⟩
 ·exact⟨Nat.zero_le _,by show (0:Nat)+_<=_;simp [fl]⟩
theorem Dr (h40:∀t∈L,t.text.size<=40) (s:PS):(asM L s).1.size+64*s.a<=64*(asM L s).2.a:=by
 unfold asM
 split
 ·have:=(jH h40 2 (adv s)).2;rw[d9] at this;omega
 ·show (0:Nat)+64*s.a<=64*s.a;omega
theorem vr (h40:∀t∈L,t.text.size<=40) (s:PS):bW (sourceM L s).1+64*s.a<=64*(sourceM L s).2.a:=by
 have h1:=(jH h40 2 s).2
 have h2:=Dr h40 (mText L 2 s).2
 unfold sourceM
 rw[xY]
 simp only[dZ]
 omega
theorem yY (x:Source) (e:Expr) (h:∃a b,x = .mk a b []):bW (x.withOn [e])=bW x+aw e+1:=by
 obtain⟨a,b,rfl⟩:=h
 simp only[Source.withOn,xY,dZ,iN]
 omega
theorem Wt.up {α:Type} {m:PM α} {w:α->Nat} {c:Nat} (h:Wt m w c):Wt m (iN w) (c+1):=fun s x s' hx=>by
 have:=h _ _ _ hx
 show w x+1+_<=_
 omega
variable {f:Nat->PM Expr} {q:PM Query}
theorem Wz.chain {g:PM Expr} (hg:Wt g aw 8) (lv:Nat):∀(n:Nat) (e:Expr) (s:PS) (x:Expr) (s':PS),cH L g lv n e s=some (x,s')->aw x+64*s.a<=aw e+64*s'.a
 |0,_,_,_,_,h=>by cases h
 |n+1,e,s,x,s',h=>by
  rw[cH] at h
  split at h
  ·injection h with h;injection h with hx h;subst hx h;exact Nat.le_refl _
  ·split at h
   ·cases h
   ·rename_i y s1 h1
    have a1:=hg _ _ _ h1
    have a2:=Wz.chain hg lv n _ _ _ _ h
    (try simp only[f5,dK,dZ,iN,d9,bD,z0,bO] at *);omega
theorem Wz.sep {α:Type} {g:PM α} {w:α->Nat} {c:Nat} (hc:c<=64) (hg:Wt g w c):∀(n:Nat) (l:List α) (s:PS) (x:List α) (s':PS),dy L g n l s=some (x,s')->dZ w x+64*s.a<=dZ w l+64*s'.a
 |0,_,_,_,_,h=>by cases h
 |n+1,l,s,x,s',h=>by
  rw[dy] at h
  split at h
  ·split at h
   ·cases h
   ·rename_i y s1 h1
    have a1:=hg _ _ _ h1
    have a2:=Wz.sep hc hg n _ _ _ _ h
    (try simp only[dZ,pq,d9] at *);omega
  ·injection h with h;injection h with hx h;subst hx h;exact Nat.le_refl _
theorem Wz.ors (hf:∀lv,Wt (f lv) aw 8):Wt (ju L f) (dZ (iN aw)) 9:=fun s x s' h=>by
 unfold ju at h
 split at h
 ·cases h
 ·rename_i y s1 h1
  have a1:=hf 1 _ _ _ h1
  have a2:=Wz.sep (by omega) (Wt.up (hf 1)) _ _ _ _ _ h
  (try simp only[dZ,iN] at *);omega
theorem Wz.inn (hf:∀lv,Wt (f lv) aw 8) (hq:Wt q aP 15) (e:Expr) (n:Bool) (s:PS) (x:Expr) (s':PS) (h:vE L f q e n s=some (x,s')):aw x+64*s.a<=aw e+40+64*s'.a:=by
 unfold vE at h
 simp only at h
 have m1:=dJ (b3 L s 40) s
 split at h
 ·split at h
  ·cases h
  ·rename_i y s1 h1
   injection h with h;injection h with hx h;subst hx h
   have a1:=hq _ _ _ h1
   have m2:=dJ (b3 L s1 41) s1
   (try simp only[cB,dK,dZ,iN,bD,z0,bO] at *);omega
 ·split at h
  ·cases h
  ·rename_i y s1 h1
   injection h with h;injection h with hx h;subst hx h
   have a1:=Wz.ors hf _ _ _ h1
   have m2:=dJ (b3 L s1 41) s1
   (try simp only[cB,dK,dZ,iN,bD,z0,bO] at *);omega
theorem Wz.cmpT (hf:∀lv,Wt (f lv) aw 8) (hq:Wt q aP 15) (e:Expr) (s:PS) (x:Expr) (s':PS) (h:cmpT L f q e s=some (x,s')):aw x+64*s.a<=aw e+64*s'.a:=by
 unfold Go.Proofs.YteffjmaadkkmeaaGreatDoor.cmpT at h
 simp only at h
 split at h
 ·injection h with h;injection h with hx h;subst hx h
  have m1:=tq (au L (adv s) 15) (adv s)
  have m2:=dJ (au L (tkIf (au L (adv s) 15) (adv s)) 20) (tkIf (au L (adv s) 15) (adv s))
  (try simp only[cB,dK,dZ,iN,d9,bD,z0,bO] at *);omega
 ·have m0:=tq (au L s 15) s
  split at h
  ·split at h
   ·cases h
   ·rename_i y s1 h1
    split at h
    ·cases h
    ·rename_i z s2 h2
     injection h with h;injection h with hx h;subst hx h
     have a1:=hf 5 _ _ _ h1
     have a2:=hf 5 _ _ _ h2
     have m2:=dJ (au L s1 13) s1
     (try simp only[cB,dK,dZ,iN,d9,bD,z0,bO] at *);omega
  ·split at h
   ·have a1:=Wz.inn hf hq e _ _ _ _ h
    (try simp only[d9] at *);omega
   ·injection h with h;injection h with hx h;subst hx h
    show aw e+64*s.a<=aw e+64*(tkIf (au L s 15) s).a
    omega
theorem Wz.cmp (hf:∀lv,Wt (f lv) aw 8) (hq:Wt q aP 15):Wt (lB L f q) aw 8:=fun s x s' h=>by
 unfold lB at h
 split at h
 ·cases h
 ·rename_i y s1 h1
  have a1:=hf 5 _ _ _ h1
  split at h
  ·have a2:=Wz.cmpT hf hq _ _ _ _ h
   omega
  ·split at h
   ·cases h
   ·rename_i z s2 h2
    injection h with h;injection h with hx h;subst hx h
    have a2:=hf 5 _ _ _ h2
    (try simp only[f5,dK,dZ,iN,d9,bD,z0,bO] at *);omega
theorem Wz.prim (h40:∀t∈L,t.text.size<=40) (hf:∀lv,Wt (f lv) aw 8) (hq:Wt q aP 15):Wt (fD L f q) aw 8:=fun s x s' h=>by
 have x40:=wC h40 s
 unfold fD at h
 simp only at h
 split at h
 ·injection h with h;injection h with hx h;subst hx h;(try simp only[dr,dK,dZ,d9,z0,bO] at *);omega
 split at h
 ·injection h with h;injection h with hx h;subst hx h;(try simp only[dr,dK,dZ,d9,z0,bO] at *);omega
 split at h
 ·injection h with h;injection h with hx h;subst hx h;(try simp only[dr,dK,dZ,d9,bD,z0,bO] at *);omega
 split at h
 ·injection h with h;injection h with hx h;subst hx h;(try simp only[dr,dK,dZ,d9,z0,bO] at *);omega
 split at h
 ·injection h with h;injection h with hx h;subst hx h;(try simp only[dr,dK,dZ,d9,z0,bO] at *);omega
 split at h
 ·split at h
  ·injection h with h;injection h with hx h;subst hx h
   have m1:=(jH h40 2 (adv (adv s))).2
   (try simp only[md,dK,dZ,d9,bD,bO] at *);omega
  ·injection h with h;injection h with hx h;subst hx h;(try simp only[md,dK,dZ,d9,bD,z0,bO] at *);omega
 split at h
 ·split at h
  ·cases h
  ·rename_i y s1 h1
   injection h with h;injection h with hx h;subst hx h
   have a1:=hf 1 _ _ _ h1
   have m1:=dJ (b3 L s1 41) s1
   (try simp only[d9] at *);omega
 split at h
 ·split at h
  ·cases h
  ·rename_i y s1 h1
   injection h with h;injection h with hx h;subst hx h
   have a1:=hq _ _ _ h1
   have m1:=dJ (b3 L (adv s) 40) (adv s)
   have m2:=dJ (b3 L s1 41) s1
   (try simp only[cB,dK,dZ,iN,d9,bD,z0,bO] at *);omega
 ·injection h with h;injection h with hx h;subst hx h;(try simp only[zExpr,dK,dZ,Fy,bD,z0,bO] at *);omega
theorem Wz.stepE (h40:∀t∈L,t.text.size<=40) (hf:∀lv,Wt (f lv) aw 8) (hq:Wt q aP 15) (lv:Nat):Wt (stepE L f q lv) aw 8:=fun s x s' h=>by
 unfold Go.Proofs.YteffjmaadkkmeaaGreatDoor.stepE at h
 split at h
 ·split at h
  ·split at h
   ·cases h
   ·rename_i y s1 h1
    injection h with h;injection h with hx h;subst hx h
    have a1:=hf 3 _ _ _ h1
    (try simp only[ua,dK,dZ,iN,d9,bD,z0,bO] at *);omega
  ·exact hf 4 _ _ _ h
 split at h
 ·exact Wz.cmp hf hq _ _ _ h
 split at h
 ·split at h
  ·split at h
   ·cases h
   ·rename_i y s1 h1
    injection h with h;injection h with hx h;subst hx h
    have a1:=hf 8 _ _ _ h1
    (try simp only[ua,dK,dZ,iN,d9,bD,z0,bO] at *);omega
  ·exact hf 9 _ _ _ h
 split at h
 ·exact Wz.prim h40 hf hq _ _ _ h
 ·split at h
  ·cases h
  ·rename_i y s1 h1
   have a1:=hf _ _ _ _ h1
   have a2:=Wz.chain (hf _) lv _ _ _ _ _ h
   omega
theorem Wz.item (h40:∀t∈L,t.text.size<=40) (hf:∀lv,Wt (f lv) aw 8):Wt (f8 L f) jo 11:=fun s x s' h=>by
 have x40:=wC h40 s
 unfold f8 at h
 split at h
 ·injection h with h;injection h with hx h;subst hx h
  (try simp only[zExpr,dK,wA,dZ,d9,bD,z0,bO] at *);omega
 split at h
 ·injection h with h;injection h with hx h;subst hx h
  (try simp only[zExpr,dK,wA,dZ,d9,bD,z0,bO] at *);omega
 split at h
 ·cases h
 ·rename_i y s1' h1
  injection h with h;injection h with hx h;subst hx h
  have a1:=hf 1 _ _ _ h1
  have m1:=Dr h40 s1'
  rw[wA]
  show (0:Nat)+_+_+_<=_
  omega
theorem Wz.sources (h40:∀t∈L,t.text.size<=40) (hf:∀lv,Wt (f lv) aw 8):∀(n:Nat) (l:List Source) (s:PS) (x:List Source) (s':PS),bN L f n l s=some (x,s')->dZ (iN bW) x+64*s.a<=dZ (iN bW) l+64*s'.a
 |0,_,_,_,_,h=>by cases h
 |n+1,l,s,x,s',h=>by
  rw[bN] at h
  have m1:=vr h40 (adv s)
  split at h
  ·have a2:=Wz.sources h40 hf n _ _ _ _ h
   (try simp only[dZ,pq,iN,d9] at *);omega
  simp only at h
  split at h
  ·split at h
   ·cases h
   ·rename_i y s1 h1
    have a1:=hf 1 _ _ _ h1
    have m2:=dJ (au L (sourceM L (adv s)).2 5) (sourceM L (adv s)).2
    have a2:=Wz.sources h40 hf n _ _ _ _ h
    have w2:=yY (sourceM L (adv s)).1 y ⟨_,_,rfl⟩
    (try simp only[dZ,pq,iN,d9] at *);omega
  ·injection h with h;injection h with hx h;subst hx h;exact Nat.le_refl _
theorem Wz.wher (hf:∀lv,Wt (f lv) aw 8):Wt (dE L f) (dZ (iN aw)) 0:=fun s x s' h=>by
 unfold dE at h
 split at h
 ·split at h
  ·cases h
  ·rename_i y s1 h1
   injection h with h;injection h with hx h;subst hx h
   have a1:=hf 1 _ _ _ h1
   (try simp only[dZ,iN,d9] at *);omega
 ·injection h with h;injection h with hx h;subst hx h;(try simp only[dZ] at *);omega
theorem rT (e:Expr) (d:Bool):eu (.mk e d)=aw e:=jp e d
theorem Wz.sort (hf:∀lv,Wt (f lv) aw 8):Wt (fa L f) eu 9:=fun s x s' h=>by
 unfold fa at h
 split at h
 ·cases h
 ·rename_i y s1 h1
  have a1:=hf 1 _ _ _ h1
  split at h
  ·injection h with h;injection h with hx h;subst hx h
   rw[rT,d9]
   omega
  ·injection h with h;injection h with hx h;subst hx h
   have m1:=tq (au L s1 10) s1
   rw[rT]
   omega
theorem Wz.order (hf:∀lv,Wt (f lv) aw 8):Wt (fc L f) (dZ (iN eu)) 0:=fun s x s' h=>by
 unfold fc at h
 simp only at h
 split at h
 ·split at h
  ·cases h
  ·rename_i y s1 h1
   have m1:=dJ (au L (adv s) 8) (adv s)
   have a1:=Wz.sort hf _ _ _ h1
   have a2:=Wz.sep (by omega) (Wt.up (Wz.sort hf)) _ _ _ _ _ h
   (try simp only[dZ,iN,d9] at *);omega
 ·injection h with h;injection h with hx h;subst hx h;(try simp only[dZ] at *);omega
theorem Wz.items (h40:∀t∈L,t.text.size<=40) (hf:∀lv,Wt (f lv) aw 8):Wt (fe L f) (dZ (iN jo)) 12:=fun s x s' h=>by
 unfold fe at h
 split at h
 ·cases h
 ·rename_i y s1 h1
  have a1:=Wz.item h40 hf _ _ _ h1
  have a2:=Wz.sep (by omega) (Wt.up (Wz.item h40 hf)) _ _ _ _ _ h
  (try simp only[dZ,iN] at *);omega
theorem Wz.stepQ (h40:∀t∈L,t.text.size<=40) (hf:∀lv,Wt (f lv) aw 8):Wt (stepQ L f) aP 15:=fun s x s' h=>by
 unfold Go.Proofs.YteffjmaadkkmeaaGreatDoor.stepQ at h
 simp only at h
 split at h
 ·cases h
 rename_i its s2 h1
 split at h
 ·cases h
 rename_i frs s4 h2
 split at h
 ·cases h
 rename_i wh s5 h3
 split at h
 ·cases h
 rename_i od s6 h4
 injection h with h;injection h with hx h;subst hx h
 have m1:=dJ (au L s 1) s
 have m2:=tq (au L (must (au L s 1) s) 2) (must (au L s 1) s)
 have a1:=Wz.items h40 hf _ _ _ h1
 have m3:=dJ (au L s2 3) s2
 have m4:=vr h40 (must (au L s2 3) s2)
 have a2:=Wz.sources h40 hf _ _ _ _ _ h2
 have a3:=Wz.wher hf _ _ _ h3
 have a4:=Wz.order hf _ _ _ h4
 have m5:=Bu (L:=L) s6
 (try simp only[Bz,dZ,iN] at *);omega
theorem vt (h40:∀t∈L,t.text.size<=40):∀k,(∀lv,Wt ((pP L k).1 lv) aw 8)/\Wt (pP L k).2 aP 15
 |0=>⟨fun _ _ _ _ h=>(by cases h),fun _ _ _ h=>(by cases h)⟩
 |k+1=>⟨fun lv=>Wz.stepE h40 (vt h40 k).1 (vt h40 k).2 lv,Wz.stepQ h40 (vt h40 k).1⟩
end
theorem BA {t:Tok} (h:aW t=true):t.text.size<=40:=by
 unfold aW at h
 split at h
 ·simp only[Bool.and_eq_true,decide_eq_true_eq] at h
  have:¬ 8<t.text.size:=fun hl=>h.1 (tO hl)
  omega
 split at h
 ·have:=of_decide_eq_true h;omega
 split at h
 ·unfold mK at h
  obtain⟨m,hm⟩:=Option.isSome_iff_exists.1 h
  obtain⟨h1,h2⟩:=et.1 hm
  have:=eL m 18 (by omega)
  rw[h2,aG] at this
  omega
 split at h
 ·exact of_decide_eq_true h
 split at h
 ·unfold eU at h
  rw[List.any_eq_true] at h
  obtain⟨x,hx,he⟩:=h
  rw[of_decide_eq_true he]
  exact Nat.le_trans ((by decide:∀s∈signs,s.size<=2) x hx) (by omega)
 ·cases h
theorem nE {s:ByteArray} {L:List Tok} (h:iE s = .inl L):L.length<=2000/\∀t∈L,aW t=true:=by
 unfold iE at h
 split at h
 ·cases h
 ·obtain⟨rr,hrr⟩:=pf (B:=s.data.toList) (s.data.toList.length+1) 0 [] (by omega) (by omega)
  rw[hrr] at h
  have h:rr = .inl L:=h
  subst h
  have:=ro (by omega) hrr (fun t ht=>by cases ht)
  rw[aG] at this
  simp only[List.length_nil] at this
  exact⟨by omega,this.1⟩
def pc (L:List Tok) (n:Nat) (i:Int):Int:=if i<L.length then (L.getD i.toNat ⟨0,z0,0⟩).at_ else n
def qL (L:List Tok) (n:Nat) (i:Int) (ok:Bool):Int×Int:=if 0<=i then (2,pc L n i) else if ok=true then (0,0) else (3,0)
def oy {α:Type} (z:α) (take:List Tok->α×Int) (ok:α->Bool) (s:ByteArray):α×(Int×Int):=match iE s with
 |.inr p=>(z,(1,p))
 |.inl L=>(if 0<=(take L).2 then z else if ok (take L).1=true then (take L).1 else z,qL L s.size (take L).2 (ok (take L).1))
def f6 (f:Int×Int):List C:=[.v (.int .i64 f.1),.v (.int .i64 f.2)]
theorem wD (L:List Tok) (hL:L.length<=1048576) (hT:∀t∈L,t.text.size<=1048576) (i:Int) (h0:0<=i) (s:ByteArray):Cl Tryz.prog 73 [.c (.sl L.length (L.flatMap Tok.row) none),vi i,vs s] [] fun r _=>r = .ag (f6 (2,pc L s.size i)):=by
 obtain⟨j,rfl⟩:∃j:Nat,i=j:=⟨i.toNat,by omega⟩
 refine ae ab false Tryz.func73 rfl (by kernel_rfl) ?_
 simp only[Tryz.f73,tt,seval]
 refine fun _=>aa (fun hlt=>?_) (fun hge=>?_)
 ·have hl:j<L.length:=by omega
  have hx:L[j]?=some L[j]:=ay hl
  have e:pc L s.size j=(L[j]).at_:=by
   unfold pc
   rw[if_pos hlt,Int.toNat_natCast,List.getD_eq_getElem?_getD,hx];rfl
  have i0:((0:Int)<=(j:Int))=True:=eq_true (by omega)
  have iL:((j:Int)<(L.length:Int))=True:=eq_true hlt
  have iT:(j<L.length)=True:=eq_true hl
  rw[e]
  generalize L[j]=tk at *
  simp only[tt,seval,bi hx kh,i0,iL,Tok.row]
  refine⟨.ag (f6 (2,tk.at_)),[],rfl,am ?_⟩
  simp only[tt,seval,f6]
 ·have e:pc L s.size j=s.size:=by unfold pc;rw[if_neg hge]
  rw[e]
  refine fun _=>?_
  refine⟨.ag (f6 (2,(s.size:Nat))),[],rfl,am ?_⟩
  simp only[tt,seval,f6]
end Go.Proofs.YteffjmaadkkmeaaGreatDoor
set_option maxRecDepth 8000
namespace Go.Proofs.YteffjmaadkkmeaaGreatDoor
open Go Go.Dv Go.Cv
open Go.Vc (D cY d3 cN bk)
theorem BB {L:List Tok} {α:Type} (z x:α) (s:PS) (ha:s.a<=L.length):((il L z (some (x,s))).2 = -1∨0<=(il L z (some (x,s))).2)/\(il L z (some (x,s))).2<=L.length:=by
 unfold il
 simp only
 split
 ·rename_i h
  refine⟨.inr h,?_⟩
  show kn L s<=_
  unfold kn
  split<;>omega
 ·exact⟨.inl rfl,by show (-1:Int)<=_;omega⟩
theorem BC {L:List Tok}:((bA L).2 = -1∨0<=(bA L).2)/\(bA L).2<=L.length:=by
 obtain⟨x,s,h⟩:=pQ (f:=kj L) (fun lv=>gS (L:=L) lv) (fun s=>pO 1 (by omega) (by omega) s) (fun s=>iU s) s0
 have ha:=(OkM.stmt (fun lv=>gS (L:=L) lv) iV _ _ _ h).2.1 (Nat.zero_le _)
 unfold bA
 rw[h];exact BB _ _ _ ha
end Go.Proofs.YteffjmaadkkmeaaGreatDoor
set_option maxRecDepth 8000
namespace Go.Proofs.YteffjmaadkkmeaaGreatDoor
open Go Go.Dv
open Go.Vc (D cY d3 cN bk)
open Go.Cv
open Go.Vc (CellF ValsF bf y3)
def F4 (f:Int×Int):List D:=[int f.1,int f.2]
theorem yZ (f:Int×Int):Cl Tryz.prog 31 [.ag (av (F4 f)),.ag (av (F4 f))] [] fun r _=>r=vb true:=by
 refine ae ab false Tryz.func31 rfl (by kernel_rfl) ?_
 simp only[Tryz.f31,tt,seval]
 simp only[tt,seval,F4]
 exact⟨_,_,rfl,ai rfl⟩
end Go.Proofs.YteffjmaadkkmeaaGreatDoor
