/-
  Draws that write in place.
  Conditions: none.
-/
import Derived.Test.YtdmomaomffhidaaGreatDoorQYV1
set_option linter.unusedVariables false
set_option linter.unusedSimpArgs false
set_option linter.unusedSectionVars false
set_option linter.unnecessarySimpa false
set_option maxRecDepth 8000
namespace Go.Proofs.YtdmomaomffhidaaGreatDoor
open Go Go.Dv
open Go.Vc (D dm dq cV bq)
open Go.Vc (D dm dq cV bq eh CellF ValsF Cells)
open Go.Cv Go.Cx
section
variable [CodeOut]
def CurAt (w:World) (b:Nat) (c:Cur):Prop:=0<=c.i/\∃ty lh,w.heap[b]?=some (.cells #[Out.code,.int .i64 c.i,.int .i64 c.h] ty lh)/\Lh 3 lh/\eh Out.code
theorem CurAt.keep {w w':World} {b:Nat} {c:Cur} {F:List Nat} (h:CurAt w b c) (g:ChL F w w') (hb:b ∉ F):CurAt w' b c:=by
 obtain⟨h0,ty,lh,h1,h2,h3⟩:=h
 exact⟨h0,ty,lh,ChL.at g h1 hb,h2,h3⟩
theorem dr {g:FuncId} {args:List S} {c:Cur} {Pr:S->Prop} (h:Cl Tryz.prog g (.c (.p 9000 0)::args) [c.cs] (th Pr)) (hp:bv (args.flatMap bb)=true) {w:World} {b:Nat} (hc:CurAt w b c) {vs:List Value}
 (hv:∀(β:Nat->Option Nat) (ok:Nat->Prop),(∀x,x≠b->ok x)->RelA Tryz.prog w β ok args vs) (hg:GlW w (fun x=>x=b)) :
 Go.Vc.callable Tryz.prog g=true/\Calls Tryz.prog g (.pointer (some ⟨b,0,none⟩)::vs).toArray w fun e w'=>∃v,e = .returned v/\∃r c',Pr r/\CurAt w' b c'/\ChL [b] w w'/\Go.Cv.Res Tryz.prog w w' r v:=by
 obtain⟨h0,ty,lh,h1,h2,h3⟩:=hc
 obtain⟨k1,k2⟩:=Cl.at1 (us:=[Out.code,.int .i64 c.i,.int .i64 c.h]) h (fun r os ⟨c',_,e,_⟩=>⟨[Out.code,.int .i64 c'.i,.int .i64 c'.h],e⟩) hp (ty:=ty) (lh:=lh) h1 (by simpa using h2) (fun u hu=>by
  simp only[List.mem_cons,List.not_mem_nil,or_false] at hu
  rcases hu with rfl|rfl|rfl
  ·exact h3
  ·trivial
  ·trivial) hv hg
 refine⟨k1,k2.mono ?_⟩
 rintro e w' ⟨v,rfl,r,us',⟨c',hr,e,hi⟩,g,⟨ty',lh',hb,hl,hok⟩,hres⟩
 have e:us'=[Out.code,.int .i64 c'.i,.int .i64 c'.h]:=by
  have:us'.map C.v=[Out.code,.int .i64 c'.i,.int .i64 c'.h].map C.v:=by injection e with e
  have unm:∀l:List Value,(l.map C.v).map (fun c:C=>match c with | .v u=>u|_=>.nilFunc)=l:=fun l=>by
   induction l with
   |nil=>rfl
   |cons a r ih=>rw[List.map_cons,List.map_cons,ih]
  have:=congrArg (List.map (fun c:C=>match c with | .v u=>u|_=>.nilFunc)) this
  rwa[unm,unm] at this
 subst e
 exact⟨v,rfl,r,c',hr,⟨hi,ty',lh',hb,by simpa using hl,h3⟩,g,hres⟩
theorem ko {w:World}:∀ {us vs:List Value} {F:List Nat},ValsF w (us.map D.lit) vs F->vs=us/\F=[]/\∀u∈us,eh u
 | [],[],_,h=>⟨rfl,h,fun u hu=>by cases hu⟩
 | [],_::_,_,h=>h.elim
 |_::_,[],_,h=>h.elim
 |u::us,v::vs,F,⟨F1,F2,⟨h1,h2,h3⟩,h4,h5⟩=>by
  obtain⟨h6,h7,h8⟩:=ko h4
  subst h1 h2 h6 h7
  exact⟨rfl,h5,fun x hx=>(List.mem_cons.1 hx).elim (fun e=>e▸h3) (h8 x)⟩
def Bn (e e':Expr):Prop:=szExpr e'<=szExpr e+2000/\(Rg e->Rg e')
def JE (e:Expr) (w:World) (b:Nat) (F:List Nat) (v:Value) (w':World):Prop:=
 ∃(e':Expr) (vs':List Value) (F':List Nat) (c':Cur),v = .agg vs'.toArray/\OwnT w' e'.row vs' F'/\(∀x∈F',x∈F∨w.heap.size<=x)/\ChL (b::F) w w'/\CurAt w' b c'/\Bn e e'
def IW (k o:Int) (n:Bool) (x:Val) (q m:ByteArray) (ks:List Expr) (ss:List Query) (w2:World) (b bx:Nat) (ka sa:Option Addr) (kcap scap:Nat) (w9:World):Prop:=
 ∃(k' o':Int) (n':Bool) (x':Val) (q' m':ByteArray) (wt:World) (ct:Cur),ChL [b] w2 wt/\ChL [bx] wt w9/\CurAt wt b ct/\(eh (.string x'.text)/\eh (.string q')/\eh (.string m'))/\Bn (.mk k o n x q m ks ss) (.mk k' o' n' x' q' m' ks ss) /\
  w9.heap[bx]?=some (.cells #[.int .i64 k',.int .i64 o',.bool n',.int .i64 x'.kind,.int .i64 x'.num,.string x'.text,.string q',.string m',.slice ka ks.length kcap,.slice sa ss.length scap] 46 (0,0))
theorem uj {w:World} {b n:Nat} {t:TypeId} {us:List Value} (h:w.heap[b]?=some (.cells us.toArray t (0,0))) (hne:us≠[]) (hn:n<=maxLen) (hok:∀u∈us,eh u):CellF w (.sl n (us.map D.lit)) (.slice (some ⟨b,0,none⟩) n n) [b]:=by
 have hv:∀us:List Value,(∀u∈us,eh u)->ValsF w (us.map D.lit) us []:=fun us=>by
  induction us with
  |nil=>intro _;rfl
  |cons u r ih=>intro h;exact⟨[],[],⟨rfl,rfl,h u (by simp)⟩,ih (fun x hx=>h x (by simp [hx])),rfl⟩
 exact⟨_,n,rfl,Nat.le_refl _,hn,(fun e=>by cases e),.inr ⟨by simpa using hne,b,0,[],rfl,(hv us hok).row (cC h (r:=[]) (by simp)),rfl⟩⟩
def q0:Query:=.mk false [] [] [] [] 0
theorem Iw:q0.row=[.lit (.bool false),.sl 0 [],.sl 0 [],.sl 0 [],.sl 0 [],.lit (.int .i64 0)]:=by rw[q0,aG];rfl
def Kl:List Value:=[.bool false,.slice none 0 0,.slice none 0 0,.slice none 0 0,.slice none 0 0,.int .i64 0]
theorem mn {w:World}:CellF w (.sl 0 []) (.slice none 0 0) []:=⟨none,0,rfl,Nat.le_refl _,by simp [maxLen],fun _=>rfl,.inl ⟨rfl,rfl⟩⟩
theorem vB {w:World}:Wh w (.sl 0 []) (.slice none 0 0):=⟨none,0,rfl,fun _=>rfl,.inl rfl⟩
theorem Ix (w:World):OwnT w q0.row Kl []:=by
 rw[Iw]
 exact⟨aX (F:=[]) (R:=[]) (dg trivial) (aX (F:=[]) (R:=[]) mn (aX (F:=[]) (R:=[]) mn (aX (F:=[]) (R:=[]) mn (aX (F:=[]) (R:=[]) mn (aX (F:=[]) (R:=[]) (dg trivial) lF))))),List.nodup_nil,OwnL.nil _,⟨trivial,vB,vB,vB,vB,trivial,trivial⟩⟩
theorem oR:∀a b:List Query,cL (a++b)=cL a+cL b
 | [],b=>by rw[List.nil_append,cL,Nat.zero_add]
 |x::r,b=>by rw[List.cons_append,cL,cL,oR r b];omega
theorem kV:∀a:List Query,a.length<=cL a
 | []=>Nat.zero_le _
 |x::r=>by rw[cL,List.length_cons];have:=kV r;omega
theorem Iy {k o:Int} {n:Bool} {x:Val} {q m:ByteArray} {ks:List Expr} {ss:List Query}:Bn (.mk k o n x q m ks ss) (.mk k o n x q m ks (ss++[q0])):=by
 refine⟨?_,fun hR=>?_⟩
 ·rw[bh,bh,oR,cL,cL]
  have:szQuery q0=0:=by rw[q0,bU];simp [fN,cB,bw,dR]
  omega
 ·cases hR with
  |mk r1 r2 r3 r4=>
   refine .mk r1 r2 (fun y hy=>?_) (fun y hy=>?_)
   ·rcases List.mem_append.1 hy with h|h
    ·exact r3 y h
    ·rw[List.mem_singleton.1 h];show (0:Int)<=_;omega
   ·rcases List.mem_append.1 hy with h|h
    ·exact r4 y h
    ·rw[List.mem_singleton.1 h]
     intro z hz
     have e0:exprsQ q0=[]:=by first|rfl|simp [q0,exprsQ]
     rw[e0] at hz;cases hz
theorem gV:∀a b:List Expr,bw (a++b)=bw a+bw b
 | [],b=>by rw[List.nil_append,bw,Nat.zero_add]
 |x::r,b=>by rw[List.cons_append,bw,bw,gV r b];omega
theorem Iz {k o:Int} {n:Bool} {x:Val} {q m:ByteArray} {ks:List Expr} {ss:List Query} {i:Nat} (hi:i<ks.length) {e':Expr} (h:Bn ks[i] e'):Bn (.mk k o n x q m ks ss) (.mk k o n x q m (ks.take i++e'::ks.drop (i+1)) ss):=by
 have e:ks=ks.take i++ks[i]::ks.drop (i+1):=by
  conv=>lhs;rw[<-List.take_append_drop i ks,List.drop_eq_getElem_cons hi]
 refine⟨?_,fun hR=>?_⟩
 ·have h1:bw ks=bw (ks.take i)+(szExpr ks[i]+1+bw (ks.drop (i+1))):=by
   conv=>lhs;rw[e,gV,bw]
  rw[bh,bh,gV,bw,h1]
  have:=h.1
  omega
 ·cases hR with
  |mk h1 h2 h3 h4=>
   refine .mk h1 (fun y hy=>?_) h3 h4
   rcases List.mem_append.1 hy with hy|hy
   ·exact h2 y (List.mem_of_mem_take hy)
   ·rcases List.mem_cons.1 hy with rfl|hy
    ·exact h.2 (h2 _ (aM hi))
    ·exact h2 y (List.mem_of_mem_drop hy)
theorem IA {k o:Int} {n:Bool} {x:Val} {q m:ByteArray} {ks:List Expr} {ss:List Query} {ec:Expr} (h:DrE 0 ec):Bn (.mk k o n x q m ks ss) (.mk k o n x q m (ks++[ec]) ss):=by
 refine⟨?_,fun hR=>?_⟩
 ·have:=h.sz
  rw[bh,bh,gV,bw,bw]
  simp only[dN] at this
  omega
 ·cases hR with
  |mk r1 r2 r3 r4=>
   refine .mk r1 (fun y hy=>?_) r3 r4
   rcases List.mem_append.1 hy with h'|h'
   ·exact r2 y h'
   ·rw[List.mem_singleton.1 h'];exact h.rg
theorem mJ {k o k' o':Int} {n n':Bool} {x x':Val} {q m q' m':ByteArray} {ks:List Expr} {ss:List Query} (h1:lp x'+(q'.size+m'.size)<=lp x+(q.size+m.size)+2000) (h2:(-9223372036854775808<=x.num/\x.num<=9223372036854775807)->(-9223372036854775808<=x'.num/\x'.num<=9223372036854775807)) :
 Bn (.mk k o n x q m ks ss) (.mk k' o' n' x' q' m' ks ss):=by
 refine⟨?_,fun hR=>?_⟩
 ·rw[bh,bh];omega
 ·cases hR with
  |mk r1 r2 r3 r4=>exact .mk (h2 r1) r2 r3 r4
theorem fx {w:World} {b:Nat} {cur:Array Value} {t:TypeId} {fz:Nat×Nat} (hh:w.heap[b]?=some (.cells cur t fz)) (cs:Array Value):ChL [b] w (w.setRow b cs):=by
 have hnew:=setRow_heap w b cur cs t fz hh
 refine⟨⟨fun x hx hn=>setRow_other w b x _ (by simpa using hn),fun x hx=>?_,rfl,rfl,rfl⟩,by simp,fun x hx hn=>setRow_other w b x _ (by simpa using hn)⟩
 obtain⟨ob,ho,hv⟩:=hx
 by_cases e:x=b
 ·subst e;exact⟨_,hnew,by simp [Go.Vc.hid]⟩
 ·exact⟨ob,(setRow_other w b x _ e).trans ho,hv⟩
theorem gY {w w':World} {b:Nat} {F:List Nat} (h:ChL (b::F) w w') (hb:w.heap.size<=b):ChL F w w':=
 ⟨⟨fun x hx hn=>h.chg.blocks x hx fun e=>(List.mem_cons.1 e).elim (fun e=>by have:=Go.Cv.vis_lt hx;omega) hn,h.chg.seen,h.chg.os,h.chg.tape,h.chg.output⟩,h.size,fun x hx hn=>h.keep x hx fun e=>(List.mem_cons.1 e).elim (fun e=>by omega) hn⟩
theorem Gj {w:World} {k o:Int} {n:Bool} {x:Val} {q m:ByteArray} {ks:List Expr} {ss:List Query} {vs:List Value} {F:List Nat} (h:OwnT w (Expr.mk k o n x q m ks ss).row vs F) :
 ∃kv sv Fk Fs,vs=[.int .i64 k,.int .i64 o,.bool n,.int .i64 x.kind,.int .i64 x.num,.string x.text,.string q,.string m,kv,sv]/\F=Fk++Fs/\(eh (.string x.text)/\eh (.string q)/\eh (.string m)) /\
  OwnT w [.sl ks.length (ks.flatMap Expr.row)] [kv] Fk/\OwnT w [.sl ss.length (ss.flatMap Query.row)] [sv] Fs/\∀y∈Fk,y ∉ Fs:=by
 rw[am] at h
 have h:OwnT w ([.int .i64 k,.int .i64 o,.bool n,.int .i64 x.kind,.int .i64 x.num,.string x.text,.string q,.string m].map D.lit++([.sl ks.length (ks.flatMap Expr.row)]++[.sl ss.length (ss.flatMap Query.row)])) vs F:=h
 obtain⟨va,vb,Fa,Fb,rfl,rfl,ha,hb,_⟩:=h.split
 obtain⟨rfl,rfl,hok⟩:=ko ha.val
 obtain⟨v1,v2,F1,F2,rfl,rfl,h1,h2,hd⟩:=hb.split
 obtain⟨kv,rfl,_,_⟩:=h1.one
 obtain⟨sv,rfl,_,_⟩:=h2.one
 exact⟨kv,sv,F1,F2,rfl,rfl,⟨hok _ (by simp),hok _ (by simp),hok _ (by simp)⟩,h1,h2,hd⟩
theorem row_mk {w:World} {k o:Int} {n:Bool} {x:Val} {q m:ByteArray} {ks:List Expr} {ss:List Query} {kv sv:Value} {Fk Fs:List Nat} (hx:eh (.string x.text)) (hq:eh (.string q)) (hm:eh (.string m))
 (h1:OwnT w [.sl ks.length (ks.flatMap Expr.row)] [kv] Fk) (h2:OwnT w [.sl ss.length (ss.flatMap Query.row)] [sv] Fs) (hd:∀y∈Fk,y ∉ Fs) :
 OwnT w (Expr.mk k o n x q m ks ss).row [.int .i64 k,.int .i64 o,.bool n,.int .i64 x.kind,.int .i64 x.num,.string x.text,.string q,.string m,kv,sv] (Fk++Fs):=by
 rw[am]
 have hl:OwnT w ([.int .i64 k,.int .i64 o,.bool n,.int .i64 x.kind,.int .i64 x.num,.string x.text,.string q,.string m].map D.lit) [.int .i64 k,.int .i64 o,.bool n,.int .i64 x.kind,.int .i64 x.num,.string x.text,.string q,.string m] []:=
  ⟨aX (F:=[]) (R:=[]) (dg trivial) (aX (F:=[]) (R:=[]) (dg trivial) (aX (F:=[]) (R:=[]) (dg trivial) (aX (F:=[]) (R:=[]) (dg trivial) (aX (F:=[]) (R:=[]) (dg trivial) (aX (F:=[]) (R:=[]) (dg hx) (aX (F:=[]) (R:=[]) (dg hq) (aX (F:=[]) (R:=[]) (dg hm) lF))))))),List.nodup_nil,OwnL.nil _,⟨trivial,trivial,trivial,trivial,trivial,trivial,trivial,trivial,trivial⟩⟩
 exact hl.join (h1.join h2 hd) (by simp)
set_option maxHeartbeats 4000000 in
theorem yX:∀(sz:Nat) (e:Expr),SizeOf.sizeOf e<sz->szExpr e<=1000000->∀(w:World) (b:Nat) (c:Cur) (vs:List Value) (F:List Nat),OwnT w e.row vs F->b ∉ F->CurAt w b c->GlW w (fun x=>x=b∨x∈F) ->
 Go.Vc.callable Tryz.prog 79=true/\Calls Tryz.prog 79 #[.pointer (some ⟨b,0,none⟩),.agg vs.toArray] w fun r w'=>∃v,r = .returned v/\JE e w b F v w':=by
 intro sz
 induction sz with
 |zero=>intro e h;exact absurd h (Nat.not_lt_zero _)
 |succ sz ih=>
 intro e he hsE w b c vs F hT hbF hc hg
 obtain⟨k,o,n,x,q,m,ks,ss⟩:=e
 obtain⟨kv,sv,Fk,Fs,rfl,rfl,⟨ox,oq,om⟩,hK,hS,hKS⟩:=Gj hT
 obtain⟨kv',e1,⟨ka,kcap,rfl,hk1,hk2,hk3,_⟩,hkw⟩:=hK.one
 injection e1 with e1
 subst e1
 obtain⟨sv',e1,⟨sa,scap,rfl,hs1,hs2,hs3,_⟩,hsw⟩:=hS.one
 injection e1 with e1
 subst e1
 refine⟨ae,?_⟩
 refine @sI _ w 79 Tryz.f79 _ [.pointer (some ⟨b,0,none⟩),.agg _] _ Tryz.func79 rfl (Nat.le_of_ble_eq_true rfl) ?_
 simp (maxSteps:=9999999) only[tt,Go.Cx.xc,Go.Cx.xl,Go.Cx.xOp,Go.Cx.xCall,Go.Cx.xStoreP,Go.Cx.xPlan,dW,Go.Cv.cg0,Go.Cv.cg1,Go.Cv.cOp,Go.Cv.cLoad,Go.Cv.cLoadA,Go.Cv.cStore,Go.Cv.cAlloc,Go.Cv.cBox,Go.Cv.cEnd,Go.Cv.cRet,Go.Cv.argsV,Go.Cv.regsV,Go.Vc.oneCell,Go.Vc.guardSlot,Nat.add_zero,seval,Tryz.f79]
 intro bx w1 hbx0 hw1
 obtain⟨hbx,hg1⟩:=gH hbx0 hw1
 intro bz w2 hbz0 hw2
 obtain⟨hbz,hg2⟩:=gH hbz0 hw2
 have hgr:=hg1.trans hg2
 replace hbx:=ChL.at (hg2.chl []) hbx (by simp)
 have hzx:bz≠bx:=by
  have:=hg1.size
  have h2:=congrArg (fun w=>w.heap.size) hw1
  simp at h2
  omega
 have hlF:∀y∈Fk++Fs,y<w.heap.size:=fun y hy=>Go.Cv.vis_lt (hT.own.vis y hy)
 have hbw:b<w.heap.size:=by obtain⟨_,_,_,h,_⟩:=hc;exact (Array.getElem?_eq_some_iff.1 h).1
 have hbx':bx ∉ Fk++Fs:=fun h=>by have:=hlF _ h;omega
 have hbz':bz ∉ Fk++Fs:=fun h=>by have:=hlF _ h;have:=hg1.size;omega
 have hbxb:bx≠b:=by omega
 have hbzb:bz≠b:=by have:=hg1.size;omega
 replace hK:=hK.keep (hgr.chl []) (by simp)
 replace hS:=hS.keep (hgr.chl []) (by simp)
 replace hc:=hc.keep (hgr.chl []) (by simp)
 replace hg:GlW w2 (fun x=>x=b∨x∈Fk++Fs):=dB (hgr.chl []) hg (by simp)
 refine⟨_,bC hbx (j:=8) rfl,?_⟩
 simp (maxSteps:=9999999) only[tt,Go.Cx.xc,Go.Cx.xl,Go.Cx.xOp,Go.Cx.xCall,Go.Cx.xStoreP,Go.Cx.xPlan,dW,Go.Cv.cg0,Go.Cv.cg1,Go.Cv.cOp,Go.Cv.cLoad,Go.Cv.cLoadA,Go.Cv.cStore,Go.Cv.cAlloc,Go.Cv.cBox,Go.Cv.cEnd,Go.Cv.cRet,Go.Cv.argsV,Go.Cv.regsV,Go.Vc.oneCell,Go.Vc.guardSlot,Nat.add_zero,seval]
 have hgb:GlW w2 (fun x=>x=b):=hg.mono (fun _ _ _=>rfl) fun _ h _=>.inl h
 have hgr:=hgr.chl [b]
 have hbK:∀y∈Fk,y ∉ [b]:=fun y hy e=>hbF ((by simpa using e:y=b)▸(by simp [hy]:y∈Fk++Fs))
 have hbS:∀y∈Fs,y ∉ [b]:=fun y hy e=>hbF ((by simpa using e:y=b)▸(by simp [hy]:y∈Fk++Fs))
 have hxK:∀y∈Fk,y ∉ [bx]:=fun y hy e=>hbx' ((by simpa using e:y=bx)▸(by simp [hy]:y∈Fk++Fs))
 have hxS:∀y∈Fs,y ∉ [bx]:=fun y hy e=>hbx' ((by simpa using e:y=bx)▸(by simp [hy]:y∈Fk++Fs))
 have hzK:∀y∈Fk,y ∉ [bz]:=fun y hy e=>hbz' ((by simpa using e:y=bz)▸(by simp [hy]:y∈Fk++Fs))
 have hzS:∀y∈Fs,y ∉ [bz]:=fun y hy e=>hbz' ((by simpa using e:y=bz)▸(by simp [hy]:y∈Fk++Fs))
 by_cases hpos:(0:Int)<ks.length
 case' neg=>
  simp (maxSteps:=9999999) only[tt,Go.Cx.xc,Go.Cx.xl,Go.Cx.xOp,Go.Cx.xCall,Go.Cx.xStoreP,Go.Cx.xPlan,dW,Go.Cv.cg0,Go.Cv.cg1,Go.Cv.cOp,Go.Cv.cLoad,Go.Cv.cLoadA,Go.Cv.cStore,Go.Cv.cAlloc,Go.Cv.cBox,Go.Cv.cEnd,Go.Cv.cRet,Go.Cv.argsV,Go.Cv.regsV,Go.Vc.oneCell,Go.Vc.guardSlot,Nat.add_zero,seval,hpos,true_implies,not_true_eq_false,false_implies,and_true,true_and,not_false_eq_true,forall_const,imp_self,implies_true]
  obtain⟨w3,hw3⟩:∃w3,w3=w2:=⟨_,rfl⟩
  obtain⟨c3,hc3⟩:∃c3,CurAt w3 b c3:=⟨c,by rw[hw3];exact hc⟩
  have g3:ChL [b] w2 w3:=by rw[hw3];exact ChL.refl _ _
  rw[<-hw3]
 case' pos=>
  simp (maxSteps:=9999999) only[tt,Go.Cx.xc,Go.Cx.xl,Go.Cx.xOp,Go.Cx.xCall,Go.Cx.xStoreP,Go.Cx.xPlan,dW,Go.Cv.cg0,Go.Cv.cg1,Go.Cv.cOp,Go.Cv.cLoad,Go.Cv.cLoadA,Go.Cv.cStore,Go.Cv.cAlloc,Go.Cv.cBox,Go.Cv.cEnd,Go.Cv.cRet,Go.Cv.argsV,Go.Cv.regsV,Go.Vc.oneCell,Go.Vc.guardSlot,Nat.add_zero,seval,hpos,true_implies,not_true_eq_false,false_implies,and_true,true_and,not_false_eq_true,forall_const,imp_self,implies_true]
  obtain⟨cc1,cc2⟩:=dr (bT c hc.1 2) rfl hc (vs:=[.int .i64 2]) (fun β ok h=>⟨⟨rfl,trivial⟩,trivial⟩) hgb
  refine⟨cc1,_,cc2,?_⟩
  rintro v w3 ⟨r,c3,⟨bo,rfl⟩,hc3,g3,hres⟩
  obtain rfl:=hres.val
  refine Stp.go ?_
  simp (maxSteps:=9999999) only[tt,Go.Cx.xc,Go.Cx.xl,Go.Cx.xOp,Go.Cx.xCall,Go.Cx.xStoreP,Go.Cx.xPlan,dW,Go.Cv.cg0,Go.Cv.cg1,Go.Cv.cOp,Go.Cv.cLoad,Go.Cv.cLoadA,Go.Cv.cStore,Go.Cv.cAlloc,Go.Cv.cBox,Go.Cv.cEnd,Go.Cv.cRet,Go.Cv.argsV,Go.Cv.regsV,Go.Vc.oneCell,Go.Vc.guardSlot,Nat.add_zero,seval,true_implies,not_true_eq_false,false_implies,and_true,true_and,not_false_eq_true,forall_const,imp_self,implies_true]
  have hbx3:=ChL.at g3 hbx (by simpa using hbxb)
  refine ab (fun hb=>?_) (fun hb=>?_)
  ·refine⟨_,bC hbx3 (j:=8) rfl,?_⟩
   simp (maxSteps:=9999999) only[tt,Go.Cx.xc,Go.Cx.xl,Go.Cx.xOp,Go.Cx.xCall,Go.Cx.xStoreP,Go.Cx.xPlan,dW,Go.Cv.cg0,Go.Cv.cg1,Go.Cv.cOp,Go.Cv.cLoad,Go.Cv.cLoadA,Go.Cv.cStore,Go.Cv.cAlloc,Go.Cv.cBox,Go.Cv.cEnd,Go.Cv.cRet,Go.Cv.argsV,Go.Cv.regsV,Go.Vc.oneCell,Go.Vc.guardSlot,Nat.add_zero,seval,true_implies,not_true_eq_false,false_implies,and_true,true_and,not_false_eq_true,forall_const,imp_self,implies_true]
   obtain⟨cc1,cc2⟩:=dr ((bj c3 hc3.1 ks.length).mono fun r os ⟨x,c',h1,h2,h3,h4⟩=>(⟨c',⟨x,h1,h3⟩,h2,h4⟩:th (fun r=>∃x:Int,r=vi x/\0<=x/\(0<(ks.length:Int)->x<ks.length)) r os)) rfl hc3 (vs:=[.int .i64 ks.length]) (fun β ok h=>⟨⟨rfl,trivial⟩,trivial⟩) (dB g3 hgb (by simp))
   refine⟨cc1,_,cc2,?_⟩
   rintro v w4 ⟨r,c4,⟨j,rfl,hj0,hj1⟩,hc4,g4,hres⟩
   obtain rfl:=hres.val
   have hj1:=hj1 hpos
   obtain⟨i,rfl⟩:∃i:Nat,j=i:=⟨j.toNat,aa⟩
   refine Stp.go ?_
   simp (maxSteps:=9999999) only[tt,Go.Cx.xc,Go.Cx.xl,Go.Cx.xOp,Go.Cx.xCall,Go.Cx.xStoreP,Go.Cx.xPlan,dW,Go.Cv.cg0,Go.Cv.cg1,Go.Cv.cOp,Go.Cv.cLoad,Go.Cv.cLoadA,Go.Cv.cStore,Go.Cv.cAlloc,Go.Cv.cBox,Go.Cv.cEnd,Go.Cv.cRet,Go.Cv.argsV,Go.Cv.regsV,Go.Vc.oneCell,Go.Vc.guardSlot,Nat.add_zero,seval,true_implies,not_true_eq_false,false_implies,and_true,true_and,not_false_eq_true,forall_const,imp_self,implies_true]
   refine⟨ac,xDrawn.intro (.take 0 (.take 2 (.take 3 (.take 4 (.take 5 (.take 6 (.take 7 (.take 8 (.br 1 (.br 9 (.take 10 (.br 11 .done .nobr)) .nobr) (.br 9 (.take 1 (.take 10 (.br 11 .done .nobr))) .nobr)))))))))) ae fun w5 p5 g5=>?_⟩
   have hi:i<ks.length:=by omega
   have g35:ChL [b] w2 w5:=(g3.trans g4).trans (g5.chl _)
   have hbFk:b ∉ Fk:=fun h=>hbF (by simp [h])
   have hbFs:b ∉ Fs:=fun h=>hbF (by simp [h])
   have hK5:=hK.keep g35 (fun y hy e=>hbFk ((by simpa using e:y=b)▸hy))
   have hS5:=hS.keep g35 (fun y hy e=>hbFs ((by simpa using e:y=b)▸hy))
   have hbx5:=ChL.at g35 hbx (by simpa using hbxb)
   have hbz5:=ChL.at g35 hbz (by simpa using hbzb)
   have hc5:=hc4.keep (g5.chl []) (by simp)
   have hg5:GlW w5 (fun x=>x=b∨x∈Fk++Fs):=dB g35 hg (by simp)
   have hne:ks.flatMap Expr.row≠[]:=fun e=>by
    have:=congrArg List.length e
    rw[bV aJ] at this
    simp at this
    omega
   obtain⟨bk,cap',vsK,Fi,cur,t,fz,sz',e1,rfl,hin,hbk,hcl,hbh,hlh,hnc,hcm,hsz',hcap⟩:=hK5.into hne
   injection e1 with e1 _ e3
   subst e1 e3
   have hsp:ks.flatMap Expr.row=(ks.take i).flatMap Expr.row++(ks[i].row++(ks.drop (i+1)).flatMap Expr.row):=by
    conv=>lhs;rw[<-List.take_append_drop i ks,List.drop_eq_getElem_cons hi]
    rw[List.flatMap_append,List.flatMap_cons]
   have hin2:=hin
   rw[hsp] at hin2
   obtain⟨va,vr,Fa,Fr,rfl,rfl,hta,htr,hd1⟩:=hin2.split
   obtain⟨vx,vb,Fx,Fb,rfl,rfl,htx,htb,hd2⟩:=htr.split
   have hva:va.length=i*10:=by rw[hta.val.length,bV aJ,List.length_take];omega
   have hvx:vx.length=10:=by rw[htx.val.length,aJ]
   simp (maxSteps:=9999999) only[tt,Go.Cx.xc,Go.Cx.xl,Go.Cx.xOp,Go.Cx.xCall,Go.Cx.xStoreP,Go.Cx.xPlan,dW,Go.Cv.cg0,Go.Cv.cg1,Go.Cv.cOp,Go.Cv.cLoad,Go.Cv.cLoadA,Go.Cv.cStore,Go.Cv.cAlloc,Go.Cv.cBox,Go.Cv.cEnd,Go.Cv.cRet,Go.Cv.argsV,Go.Cv.regsV,Go.Vc.oneCell,Go.Vc.guardSlot,Nat.add_zero,seval,true_implies,not_true_eq_false,false_implies,and_true,true_and,not_false_eq_true,forall_const,imp_self,implies_true]
   refine⟨_,bC hbx5 (j:=8) rfl,?_⟩
   simp (maxSteps:=9999999) only[tt,Go.Cx.xc,Go.Cx.xl,Go.Cx.xOp,Go.Cx.xCall,Go.Cx.xStoreP,Go.Cx.xPlan,dW,Go.Cv.cg0,Go.Cv.cg1,Go.Cv.cOp,Go.Cv.cLoad,Go.Cv.cLoadA,Go.Cv.cStore,Go.Cv.cAlloc,Go.Cv.cBox,Go.Cv.cEnd,Go.Cv.cRet,Go.Cv.argsV,Go.Cv.regsV,Go.Vc.oneCell,Go.Vc.guardSlot,Nat.add_zero,seval,true_implies,not_true_eq_false,false_implies,and_true,true_and,not_false_eq_true,forall_const,imp_self,implies_true]
   refine⟨aa,aa,vx,hvx,?_,?_⟩
   ·intro j v hj
    have:=hcl (va.length+j) v (by rw[List.getElem?_append_right aa,Nat.add_sub_cancel_left,List.getElem?_append_left (List.getElem?_eq_some_iff.1 hj).1];exact hj)
    rw[hva] at this
    simpa using this
   have hsz10:sz'=10:=Nat.eq_of_mul_eq_mul_left (show 0<ks.length by omega) (by rw[<-hsz',bV aJ])
   subst hsz10
   have hbxT:bx ∉ b::Fx:=by simp only[List.mem_append,List.mem_cons,not_or] at hbx' ⊢;exact⟨hbxb,hbx'.1.2.2.1⟩
   have hbzT:bz ∉ b::Fx:=by simp only[List.mem_append,List.mem_cons,not_or] at hbz' ⊢;exact⟨hbzb,hbz'.1.2.2.1⟩
   have hbT:b ∉ Fx:=fun h=>hbFk (by simp [h])
   have hszi:SizeOf.sizeOf ks[i]<sz:=by
    have:=List.sizeOf_lt_of_mem (aM hi)
    simp only[Expr.mk.sizeOf_spec] at he
    omega
   obtain⟨ih1,ih2⟩:=ih ks[i] hszi (by
    have h1:bw ks=bw (ks.take i)+(szExpr ks[i]+1+bw (ks.drop (i+1))):=by
     conv=>lhs;rw[<-List.take_append_drop i ks,List.drop_eq_getElem_cons hi,gV,bw]
    rw[bh,h1] at hsE
    omega) w5 b c4 vx Fx htx hbT hc5 (hg5.mono (fun _ _ _=>rfl) fun y hy _=>hy.imp id fun h=>by simp [h])
   refine ab ?_ ?_
   all_goals
    try refine⟨_,bC hbx5 (j:=8) rfl,?_⟩
    try simp (maxSteps:=9999999) only[tt,Go.Cx.xc,Go.Cx.xl,Go.Cx.xOp,Go.Cx.xCall,Go.Cx.xStoreP,Go.Cx.xPlan,dW,Go.Cv.cg0,Go.Cv.cg1,Go.Cv.cOp,Go.Cv.cLoad,Go.Cv.cLoadA,Go.Cv.cStore,Go.Cv.cAlloc,Go.Cv.cBox,Go.Cv.cEnd,Go.Cv.cRet,Go.Cv.argsV,Go.Cv.regsV,Go.Vc.oneCell,Go.Vc.guardSlot,Nat.add_zero,seval,true_implies,not_true_eq_false,false_implies,and_true,true_and,not_false_eq_true,forall_const,imp_self,implies_true]
    refine⟨ih1,_,ih2,?_⟩
    rintro v w6 ⟨e',vs',F',c6,rfl,hT6,hF6,g6,hc6,hbn⟩
    have hbx6:=ChL.at g6 hbx5 hbxT
    have hbz6:=ChL.at g6 hbz5 hbzT
    refine Stp.go ?_
    simp (maxSteps:=9999999) only[tt,Go.Cx.xc,Go.Cx.xl,Go.Cx.xOp,Go.Cx.xCall,Go.Cx.xStoreP,Go.Cx.xPlan,dW,Go.Cv.cg0,Go.Cv.cg1,Go.Cv.cOp,Go.Cv.cLoad,Go.Cv.cLoadA,Go.Cv.cStore,Go.Cv.cAlloc,Go.Cv.cBox,Go.Cv.cEnd,Go.Cv.cRet,Go.Cv.argsV,Go.Cv.regsV,Go.Vc.oneCell,Go.Vc.guardSlot,Nat.add_zero,seval,true_implies,not_true_eq_false,false_implies,and_true,true_and,not_false_eq_true,forall_const,imp_self,implies_true]
    try refine⟨_,bC hbx6 (j:=8) rfl,?_⟩
    try simp (maxSteps:=9999999) only[tt,Go.Cx.xc,Go.Cx.xl,Go.Cx.xOp,Go.Cx.xCall,Go.Cx.xStoreP,Go.Cx.xPlan,dW,Go.Cv.cg0,Go.Cv.cg1,Go.Cv.cOp,Go.Cv.cLoad,Go.Cv.cLoadA,Go.Cv.cStore,Go.Cv.cAlloc,Go.Cv.cBox,Go.Cv.cEnd,Go.Cv.cRet,Go.Cv.argsV,Go.Cv.regsV,Go.Vc.oneCell,Go.Vc.guardSlot,Nat.add_zero,seval,true_implies,not_true_eq_false,false_implies,and_true,true_and,not_false_eq_true,forall_const,imp_self,implies_true]
    have hvs':vs'.length=10:=by rw[hT6.val.length,aJ]
    have hbkT:bk ∉ b::Fx:=by
     simp only[List.mem_append,not_or] at hbk
     simp only[List.mem_cons,not_or]
     exact⟨fun e=>hbFk (by simp [e]),hbk.2.1⟩
    have hbh6:=ChL.at g6 hbh hbkT
    have hcl6:=hcl.chg g6.chg hbkT
    refine⟨aa,aa,by rw[List.size_toArray,hvs'],cur,t,fz,hbh6,hlh,?_,fun u hu=>?_,_,rfl,?_⟩
    ·rw[hvs']
     have:=Nat.mul_le_mul_right 10 hnc
     omega
    ·rw[Go.Vc.oneCell_eq];exact hT6.val.oneCell u (by simpa using hu)
    refine Stp.go ?_
    generalize hw7:w6.setRow bk _=w7
    obtain⟨g7,hcl7,⟨cur7,hbh7,hcs7⟩,_⟩:=Gn hbh6 (o:=0) hcl6 (vy:=vs') (by rw[hvs',hvx]) (fun e=>by rw[e] at hvx;simp at hvx) w7 (by rw[<-hw7];simp [hva])
    have hbx7:=ChL.at g7 hbx6 (by simp only[List.mem_append,List.mem_cons,List.not_mem_nil,not_or,or_false] at hbx' ⊢;exact hbx'.1.1)
    have hbz7:=ChL.at g7 hbz6 (by simp only[List.mem_append,List.mem_cons,List.not_mem_nil,not_or,or_false] at hbz' ⊢;exact hbz'.1.1)
    simp (maxSteps:=9999999) only[tt,Go.Cx.xc,Go.Cx.xl,Go.Cx.xOp,Go.Cx.xCall,Go.Cx.xStoreP,Go.Cx.xPlan,dW,Go.Cv.cg0,Go.Cv.cg1,Go.Cv.cOp,Go.Cv.cLoad,Go.Cv.cLoadA,Go.Cv.cStore,Go.Cv.cAlloc,Go.Cv.cBox,Go.Cv.cEnd,Go.Cv.cRet,Go.Cv.argsV,Go.Cv.regsV,Go.Vc.oneCell,Go.Vc.guardSlot,Nat.add_zero,seval,true_implies,not_true_eq_false,false_implies,and_true,true_and,not_false_eq_true,forall_const,imp_self,implies_true]
    refine⟨[.int .i64 k,.int .i64 o,.bool n,.int .i64 x.kind,.int .i64 x.num,.string x.text,.string q,.string m,.slice (some ⟨bk,0,none⟩) ks.length kcap,.slice sa ss.length scap],rfl,cC hbx7 (r:=[]) (by simp),?_⟩
    simp (maxSteps:=9999999) only[tt,Go.Cx.xc,Go.Cx.xl,Go.Cx.xOp,Go.Cx.xCall,Go.Cx.xStoreP,Go.Cx.xPlan,dW,Go.Cv.cg0,Go.Cv.cg1,Go.Cv.cOp,Go.Cv.cLoad,Go.Cv.cLoadA,Go.Cv.cStore,Go.Cv.cAlloc,Go.Cv.cBox,Go.Cv.cEnd,Go.Cv.cRet,Go.Cv.argsV,Go.Cv.regsV,Go.Vc.oneCell,Go.Vc.guardSlot,Nat.add_zero,seval,true_implies,not_true_eq_false,false_implies,and_true,true_and,not_false_eq_true,forall_const,imp_self,implies_true]
    refine⟨by first|rfl|trivial,_,_,_,hbz7,Lh.zero _,by simp,fun u hu=>?_,_,rfl,Stp.go ?_⟩
    ·simp only[List.mem_cons,List.not_mem_nil,or_false] at hu
     rcases hu with rfl|rfl|rfl|rfl|rfl|rfl|rfl|rfl|rfl|rfl<;>rfl
    generalize hw8:World.setRow w7 bz _=w8
    have hw8:World.setRow w7 bz ([.int .i64 k,.int .i64 o,.bool n,.int .i64 x.kind,.int .i64 x.num,.string x.text,.string q,.string m,.slice (some ⟨bk,0,none⟩) ks.length kcap,.slice sa ss.length scap]:List Value).toArray=w8:=by rw[<-hw8];rfl
    have hbz8:=setRow_heap w7 bz _ ([.int .i64 k,.int .i64 o,.bool n,.int .i64 x.kind,.int .i64 x.num,.string x.text,.string q,.string m,.slice (some ⟨bk,0,none⟩) ks.length kcap,.slice sa ss.length scap]:List Value).toArray 46 _ hbz7
    have g8:=fx hbz7 ([.int .i64 k,.int .i64 o,.bool n,.int .i64 x.kind,.int .i64 x.num,.string x.text,.string q,.string m,.slice (some ⟨bk,0,none⟩) ks.length kcap,.slice sa ss.length scap]:List Value).toArray
    rw[hw8] at hbz8 g8
    refine⟨[.int .i64 k,.int .i64 o,.bool n,.int .i64 x.kind,.int .i64 x.num,.string x.text,.string q,.string m,.slice (some ⟨bk,0,none⟩) ks.length kcap,.slice sa ss.length scap],rfl,cC hbz8 (r:=[]) (by simp),?_⟩
    have lt5:∀y,y∈(bk::(Fa++(Fx++Fb)))++Fs->y<w5.heap.size:=fun y hy=>Go.Cv.vis_lt ((hK5.own.app hS5.own).vis y hy)
    have hbk5:bz<w5.heap.size:=(Array.getElem?_eq_some_iff.1 hbz5).1
    have nF:∀y,y<w5.heap.size->y ∉ Fx->y ∉ F':=fun y hy hn h=>(hF6 y h).elim hn aa
    have hmem:∀y,y∈Fa∨y∈Fx∨y∈Fb->y∈(bk::(Fa++(Fx++Fb)))++Fs:=fun y hy=>by
     simp only[List.cons_append,List.mem_cons,List.mem_append];rcases hy with h|h|h<;>simp [h]
    simp only[List.mem_append,not_or] at hbk
    have hbne:b≠bk:=fun e=>hbFk (by simp [e])
    have nb:∀y,y∈(bk::(Fa++(Fx++Fb)))++Fs->y≠b:=fun y hy e=>hbF (e▸hy)
    have nbz:∀y,y∈(bk::(Fa++(Fx++Fb)))++Fs->y≠bz:=fun y hy e=>hbz' (e▸hy)
    have k6:∀y,y∈(bk::(Fa++(Fx++Fb)))++Fs->y ∉ Fx->y ∉ b::Fx:=fun y hy hn h=>(List.mem_cons.1 h).elim (nb y hy) hn
    have k7:∀y,y≠bk->y ∉ [bk]:=fun y hn h=>hn (by simpa using h)
    have fa7:=(hta.keep g6 (fun y hy=>k6 y (hmem y (.inl hy)) fun h=>hd1 y hy (by simp [h]))).keep g7 (fun y hy=>k7 y fun e=>hbk.1 (e▸hy))
    have fb7:=(htb.keep g6 (fun y hy=>k6 y (hmem y (.inr (.inr hy))) fun h=>hd2 y h hy)).keep g7 (fun y hy=>k7 y fun e=>hbk.2.2 (e▸hy))
    have bkF:bk ∉ F':=nF bk (lt5 bk (by simp)) hbk.2.1
    have fx7:=hT6.keep g7 (fun y hy=>k7 y fun e=>bkF (e▸hy))
    have fs6:=hS5.keep g6 (fun y hy=>k6 y (by simp [hy]) fun h=>hKS y (by simp [h]) hy)
    have fs8:=(fs6.keep g7 (fun y hy=>k7 y fun e=>hKS bk (by simp) (e▸hy))).keep g8 (fun y hy e=>nbz y (by simp [hy]) (by simpa using e))
    have j7:=fa7.join (fx7.join fb7 (fun y hy hb=>by
     rcases hF6 y hy with h|h
     ·exact hd2 y h hb
     ·have:=lt5 y (hmem y (.inr (.inr hb)));omega)) (fun y hy hb=>by
     rcases List.mem_append.1 hb with hb|hb
     ·exact nF y (lt5 y (hmem y (.inl hy))) (fun h=>hd1 y hy (by simp [h])) hb
     ·exact hd1 y hy (by simp [hb]))
    have hfm:(ks.take i++e'::ks.drop (i+1)).flatMap Expr.row=(ks.take i).flatMap Expr.row++(e'.row++(ks.drop (i+1)).flatMap Expr.row):=by rw[List.flatMap_append,List.flatMap_cons]
    have hln:(ks.take i++e'::ks.drop (i+1)).length=ks.length:=by simp;omega
    rw[<-hfm] at j7
    have K7:=j7.outof (n:=ks.length) (sz:=10) (cap:=kcap) (b:=bk) (fun h=>by
     simp only[List.mem_append] at h
     rcases h with h|h|h
     ·exact hbk.1 h
     ·exact bkF h
     ·exact hbk.2.2 h) hcl7 hbh7 (by rw[hcs7];exact hlh) hnc hcm (by rw[bV aJ,hln]) (by rw[hcs7];exact hcap) (fun e=>by
     have:=congrArg List.length e
     rw[bV aJ,hln] at this
     simp at this
     omega)
    have K8:=K7.keep g8 (fun y hy e=>by
     obtain rfl:y=bz:=by simpa using e
     simp only[List.mem_cons,List.mem_append] at hy
     rcases hy with h|h|h|h
     ·exact nbz bk (by simp) h.symm
     ·exact nbz _ (hmem _ (.inl h)) rfl
     ·rcases hF6 _ h with h|h
      ·exact nbz _ (hmem _ (.inr (.inl h))) rfl
      ·omega
     ·exact nbz _ (hmem _ (.inr (.inr h))) rfl)
    rw[<-hln] at K8
    have M8:=row_mk (k:=k) (o:=o) (n:=n) ox oq om K8 fs8 (fun y hy hs=>by
     simp only[List.mem_cons,List.mem_append] at hy
     rcases hy with rfl|h|h|h
     ·exact hKS y (by simp) hs
     ·exact hKS y (by simp [h]) hs
     ·rcases hF6 y h with h|h
      ·exact hKS y (by simp [h]) hs
      ·have:=lt5 y (by simp [hs]);omega
     ·exact hKS y (by simp [h]) hs)
    rw[hln] at M8
    have sz2:w2.heap.size<=w5.heap.size:=g35.size
    have sz0:w.heap.size<=w2.heap.size:=hgr.size
    refine⟨_,_,_,c6,rfl,M8,fun y hy=>?_,?_,(hc6.keep g7 (fun h=>hbne (by simpa using h))).keep g8 (fun h=>hbzb (by simpa using h:b=bz).symm),Iz hi hbn⟩
    ·simp only[List.mem_cons,List.mem_append] at hy ⊢
     rcases hy with (h|h|h|h)|h
     ·simp [h]
     ·simp [h]
     ·rcases hF6 y h with h|h
      ·simp [h]
      ·exact .inr aa
     ·simp [h]
     ·simp [h]
    ·have G:∀(F0:List Nat) (u v:World),ChL F0 u v->(∀y∈F0,y∈bz::b::((bk::(Fa++(Fx++Fb)))++Fs))->ChL (bz::b::((bk::(Fa++(Fx++Fb)))++Fs)) u v:=fun _ _ _ h hs=>h.mono hs
     exact gY (((((G _ _ _ hgr (by simp)).trans (G _ _ _ g35 (by simp))).trans (G _ _ _ g6 (by simp;intro y hy;simp [hy]))).trans (G _ _ _ g7 (by simp))).trans (G _ _ _ g8 (by simp))) (by have:=hg1.size;omega)
 all_goals
  obtain⟨cc1,cc2⟩:=dr ((bj c3 hc3.1 8).mono fun r os ⟨x,c',h1,h2,h3,h4⟩=>(⟨c',⟨x,h1,h3⟩,h2,h4⟩:th (fun r=>∃x:Int,r=vi x/\0<=x/\(0<(8:Int)->x<8)) r os)) rfl hc3 (vs:=[.int .i64 8]) (fun β ok h=>⟨⟨rfl,trivial⟩,trivial⟩) (dB g3 hgb (by simp))
  refine⟨cc1,_,cc2,?_⟩
  rintro v ws ⟨r,cs,⟨y,rfl,y0,y1⟩,hcs,gcs,hres⟩
  obtain rfl:=hres.val
  refine Stp.go ?_
  simp (maxSteps:=9999999) only[tt,Go.Cx.xc,Go.Cx.xl,Go.Cx.xOp,Go.Cx.xCall,Go.Cx.xStoreP,Go.Cx.xPlan,dW,Go.Cv.cg0,Go.Cv.cg1,Go.Cv.cOp,Go.Cv.cLoad,Go.Cv.cLoadA,Go.Cv.cStore,Go.Cv.cAlloc,Go.Cv.cBox,Go.Cv.cEnd,Go.Cv.cRet,Go.Cv.argsV,Go.Cv.regsV,Go.Vc.oneCell,Go.Vc.guardSlot,Nat.add_zero,seval,true_implies,not_true_eq_false,false_implies,and_true,true_and,not_false_eq_true,forall_const,imp_self,implies_true]
  have gW:=(g3).trans gcs
  refine ab (fun hy0=>?_) (fun hy0=>?_)
  obtain⟨cc1,cc2⟩:=dr ((bj cs hcs.1 12).mono fun r os ⟨x,c',h1,h2,h3,h4⟩=>(⟨c',⟨x,h1,h3⟩,h2,h4⟩:th (fun r=>∃x:Int,r=vi x/\0<=x/\(0<(12:Int)->x<12)) r os)) rfl hcs (vs:=[.int .i64 12]) (fun β ok h=>⟨⟨rfl,trivial⟩,trivial⟩) (dB gW hgb (by simp))
  refine⟨cc1,_,cc2,?_⟩
  rintro v2 wt ⟨r,ct,⟨y2,rfl,y20,y21⟩,hct,gct,hres⟩
  obtain rfl:=hres.val
  refine Stp.go ?_
  simp (maxSteps:=9999999) only[tt,Go.Cx.xc,Go.Cx.xl,Go.Cx.xOp,Go.Cx.xCall,Go.Cx.xStoreP,Go.Cx.xPlan,dW,Go.Cv.cg0,Go.Cv.cg1,Go.Cv.cOp,Go.Cv.cLoad,Go.Cv.cLoadA,Go.Cv.cStore,Go.Cv.cAlloc,Go.Cv.cBox,Go.Cv.cEnd,Go.Cv.cRet,Go.Cv.argsV,Go.Cv.regsV,Go.Vc.oneCell,Go.Vc.guardSlot,Nat.add_zero,seval,true_implies,not_true_eq_false,false_implies,and_true,true_and,not_false_eq_true,forall_const,imp_self,implies_true]
  have gX:=gW.trans gct
  refine il (ChL.at gX hbx (by simpa using hbxb)) (Lh.zero _) (by simp) fun w9 hb9 g9 e9=>?_
  have hb9:w9.heap[bx]?=some (.cells #[.int .i64 (IntKind.i64.wrap (y2-1)),.int .i64 o,.bool n,.int .i64 x.kind,.int .i64 x.num,.string x.text,.string q,.string m,.slice ka ks.length kcap,.slice sa ss.length scap] 46 (0,0)):=hb9
  simp (maxSteps:=9999999) only[tt,Go.Cx.xc,Go.Cx.xl,Go.Cx.xOp,Go.Cx.xCall,Go.Cx.xStoreP,Go.Cx.xPlan,dW,Go.Cv.cg0,Go.Cv.cg1,Go.Cv.cOp,Go.Cv.cLoad,Go.Cv.cLoadA,Go.Cv.cStore,Go.Cv.cAlloc,Go.Cv.cBox,Go.Cv.cEnd,Go.Cv.cRet,Go.Cv.argsV,Go.Cv.regsV,Go.Vc.oneCell,Go.Vc.guardSlot,Nat.add_zero,seval,true_implies,not_true_eq_false,false_implies,and_true,true_and,not_false_eq_true,forall_const,imp_self,implies_true]
  have T9:IW k o n x q m ks ss w2 b bx ka sa kcap scap w9:=⟨(IntKind.i64.wrap (y2-1)),o,n,x,q,m,wt,ct,gX,g9,hct,⟨ox,oq,om⟩,mJ aa id,hb9⟩
  rotate_left
  refine ab (fun hy1=>?_) (fun hy1=>?_)
  refine⟨ah,ah,ae,rfl,fun u hu=>?_,fun bi wi hbi hwi=>?_⟩
  ·simp only[List.mem_cons,List.not_mem_nil,or_false] at hu
   rcases hu with rfl|rfl|rfl|rfl|rfl|rfl|rfl<;>rfl
  obtain⟨hbi',gi⟩:=gH hbi hwi
  have gWi:=gW.trans (gi.chl _)
  simp (maxSteps:=9999999) only[tt,Go.Cx.xc,Go.Cx.xl,Go.Cx.xOp,Go.Cx.xCall,Go.Cx.xStoreP,Go.Cx.xPlan,dW,Go.Cv.cg0,Go.Cv.cg1,Go.Cv.cOp,Go.Cv.cLoad,Go.Cv.cLoadA,Go.Cv.cStore,Go.Cv.cAlloc,Go.Cv.cBox,Go.Cv.cEnd,Go.Cv.cRet,Go.Cv.argsV,Go.Cv.regsV,Go.Vc.oneCell,Go.Vc.guardSlot,Nat.add_zero,seval,true_implies,not_true_eq_false,false_implies,and_true,true_and,not_false_eq_true,forall_const,imp_self,implies_true]
  have hcsI:=hcs.keep (gi.chl []) (by simp)
  have hbib:bi≠b:=by
   obtain⟨_,_,_,h,_⟩:=hcs
   have:=(Array.getElem?_eq_some_iff.1 h).1
   omega
  obtain⟨cc1,cc2⟩:=dr (jy cs hcs.1 [0,1,14,15,16,17,-1] ah) rfl hcsI (vs:=[.slice (some ⟨bi,0,none⟩) 7 7]) (fun β ok h=>⟨⟨[bi],uj (us:=[.int .i64 (0),.int .i64 (1),.int .i64 (14),.int .i64 (15),.int .i64 (16),.int .i64 (17),.int .i64 (-1)]) (n:=7) hbi' (by simp) (by simp [maxLen]) (by simp [eh]),fun y hy=>h y (fun e=>hbib ((by simpa using hy:y=bi)▸e)),fun _ e=>by cases e⟩,trivial⟩) (dB gWi hgb (by simp))
  refine⟨cc1,_,cc2,?_⟩
  rintro v2 wt ⟨r,ct,⟨JQ,hop2,rfl⟩,hct,gct,hres⟩
  obtain rfl:=hres.val
  refine Stp.go ?_
  simp (maxSteps:=9999999) only[tt,Go.Cx.xc,Go.Cx.xl,Go.Cx.xOp,Go.Cx.xCall,Go.Cx.xStoreP,Go.Cx.xPlan,dW,Go.Cv.cg0,Go.Cv.cg1,Go.Cv.cOp,Go.Cv.cLoad,Go.Cv.cLoadA,Go.Cv.cStore,Go.Cv.cAlloc,Go.Cv.cBox,Go.Cv.cEnd,Go.Cv.cRet,Go.Cv.argsV,Go.Cv.regsV,Go.Vc.oneCell,Go.Vc.guardSlot,Nat.add_zero,seval,true_implies,not_true_eq_false,false_implies,and_true,true_and,not_false_eq_true,forall_const,imp_self,implies_true]
  have gX:=gWi.trans gct
  refine il (ChL.at gX hbx (by simpa using hbxb)) (Lh.zero _) (by simp) fun w9 hb9 g9 e9=>?_
  have hb9:w9.heap[bx]?=some (.cells #[.int .i64 k,.int .i64 JQ,.bool n,.int .i64 x.kind,.int .i64 x.num,.string x.text,.string q,.string m,.slice ka ks.length kcap,.slice sa ss.length scap] 46 (0,0)):=hb9
  simp (maxSteps:=9999999) only[tt,Go.Cx.xc,Go.Cx.xl,Go.Cx.xOp,Go.Cx.xCall,Go.Cx.xStoreP,Go.Cx.xPlan,dW,Go.Cv.cg0,Go.Cv.cg1,Go.Cv.cOp,Go.Cv.cLoad,Go.Cv.cLoadA,Go.Cv.cStore,Go.Cv.cAlloc,Go.Cv.cBox,Go.Cv.cEnd,Go.Cv.cRet,Go.Cv.argsV,Go.Cv.regsV,Go.Vc.oneCell,Go.Vc.guardSlot,Nat.add_zero,seval,true_implies,not_true_eq_false,false_implies,and_true,true_and,not_false_eq_true,forall_const,imp_self,implies_true]
  have T9:IW k o n x q m ks ss w2 b bx ka sa kcap scap w9:=⟨k,JQ,n,x,q,m,wt,ct,gX,g9,hct,⟨ox,oq,om⟩,mJ aa id,hb9⟩
  rotate_left
  refine ab (fun hy2=>?_) (fun hy2=>?_)
  refine⟨_,bC (ChL.at gW hbx (by simpa using hbxb)) (j:=2) rfl,?_⟩
  simp (maxSteps:=9999999) only[tt,Go.Cx.xc,Go.Cx.xl,Go.Cx.xOp,Go.Cx.xCall,Go.Cx.xStoreP,Go.Cx.xPlan,dW,Go.Cv.cg0,Go.Cv.cg1,Go.Cv.cOp,Go.Cv.cLoad,Go.Cv.cLoadA,Go.Cv.cStore,Go.Cv.cAlloc,Go.Cv.cBox,Go.Cv.cEnd,Go.Cv.cRet,Go.Cv.argsV,Go.Cv.regsV,Go.Vc.oneCell,Go.Vc.guardSlot,Nat.add_zero,seval,true_implies,not_true_eq_false,false_implies,and_true,true_and,not_false_eq_true,forall_const,imp_self,implies_true]
  refine il (ChL.at gW hbx (by simpa using hbxb)) (Lh.zero _) (by simp) fun w9 hb9 g9 e9=>?_
  have hb9:w9.heap[bx]?=some (.cells #[.int .i64 k,.int .i64 o,.bool (!n),.int .i64 x.kind,.int .i64 x.num,.string x.text,.string q,.string m,.slice ka ks.length kcap,.slice sa ss.length scap] 46 (0,0)):=hb9
  simp (maxSteps:=9999999) only[tt,Go.Cx.xc,Go.Cx.xl,Go.Cx.xOp,Go.Cx.xCall,Go.Cx.xStoreP,Go.Cx.xPlan,dW,Go.Cv.cg0,Go.Cv.cg1,Go.Cv.cOp,Go.Cv.cLoad,Go.Cv.cLoadA,Go.Cv.cStore,Go.Cv.cAlloc,Go.Cv.cBox,Go.Cv.cEnd,Go.Cv.cRet,Go.Cv.argsV,Go.Cv.regsV,Go.Vc.oneCell,Go.Vc.guardSlot,Nat.add_zero,seval,true_implies,not_true_eq_false,false_implies,and_true,true_and,not_false_eq_true,forall_const,imp_self,implies_true]
  have T9:IW k o n x q m ks ss w2 b bx ka sa kcap scap w9:=⟨k,o,(!n),x,q,m,ws,cs,gW,g9,hcs,⟨ox,oq,om⟩,mJ aa id,hb9⟩
  rotate_left
  refine ab (fun hy3=>?_) (fun hy3=>?_)
  obtain⟨cc1,cc2⟩:=dr (Eb cs hcs.1) rfl hcs (vs:=[]) (fun β ok h=>trivial) (dB gW hgb (by simp))
  refine⟨cc1,_,cc2,?_⟩
  rintro v2 wt ⟨r,ct,⟨xv,rfl,hxv⟩,hct,gct,hres⟩
  obtain⟨vv,G0,rfl,hvv⟩:=hres.ag
  have hvv:ValsF wt ([.int .i64 xv.kind,.int .i64 xv.num,.string xv.text].map D.lit) vv G0:=hvv
  obtain⟨rfl,rfl,hok⟩:=ko hvv
  refine Stp.go ?_
  simp (maxSteps:=9999999) only[tt,Go.Cx.xc,Go.Cx.xl,Go.Cx.xOp,Go.Cx.xCall,Go.Cx.xStoreP,Go.Cx.xPlan,dW,Go.Cv.cg0,Go.Cv.cg1,Go.Cv.cOp,Go.Cv.cLoad,Go.Cv.cLoadA,Go.Cv.cStore,Go.Cv.cAlloc,Go.Cv.cBox,Go.Cv.cEnd,Go.Cv.cRet,Go.Cv.argsV,Go.Cv.regsV,Go.Vc.oneCell,Go.Vc.guardSlot,Nat.add_zero,seval,true_implies,not_true_eq_false,false_implies,and_true,true_and,not_false_eq_true,forall_const,imp_self,implies_true]
  have gX:=gW.trans gct
  have hbX:=ChL.at gX hbx (by simpa using hbxb)
  refine⟨by first|rfl|trivial,_,_,_,hbX,Lh.zero _,by simp,fun u hu=>?_,_,rfl,Stp.go ?_⟩
  ·simp only[List.mem_cons,List.not_mem_nil,or_false] at hu
   rcases hu with rfl|rfl|rfl<;>rfl
  generalize hw9:World.setRow wt bx _=w9
  have hw9:World.setRow wt bx ([.int .i64 k,.int .i64 o,.bool n,.int .i64 xv.kind,.int .i64 xv.num,.string xv.text,.string q,.string m,.slice ka ks.length kcap,.slice sa ss.length scap]:List Value).toArray=w9:=by rw[<-hw9];rfl
  have hb9:=setRow_heap wt bx _ ([.int .i64 k,.int .i64 o,.bool n,.int .i64 xv.kind,.int .i64 xv.num,.string xv.text,.string q,.string m,.slice ka ks.length kcap,.slice sa ss.length scap]:List Value).toArray 46 _ hbX
  have g9:=fx hbX ([.int .i64 k,.int .i64 o,.bool n,.int .i64 xv.kind,.int .i64 xv.num,.string xv.text,.string q,.string m,.slice ka ks.length kcap,.slice sa ss.length scap]:List Value).toArray
  rw[hw9] at hb9 g9
  simp (maxSteps:=9999999) only[tt,Go.Cx.xc,Go.Cx.xl,Go.Cx.xOp,Go.Cx.xCall,Go.Cx.xStoreP,Go.Cx.xPlan,dW,Go.Cv.cg0,Go.Cv.cg1,Go.Cv.cOp,Go.Cv.cLoad,Go.Cv.cLoadA,Go.Cv.cStore,Go.Cv.cAlloc,Go.Cv.cBox,Go.Cv.cEnd,Go.Cv.cRet,Go.Cv.argsV,Go.Cv.regsV,Go.Vc.oneCell,Go.Vc.guardSlot,Nat.add_zero,seval,true_implies,not_true_eq_false,false_implies,and_true,true_and,not_false_eq_true,forall_const,imp_self,implies_true]
  have T9:IW k o n x q m ks ss w2 b bx ka sa kcap scap w9:=⟨k,o,n,xv,q,m,wt,ct,gX,g9,hct,⟨hok _ (by simp),oq,om⟩,mJ (by unfold lp;have:=hxv.2;omega) (fun _=>by have:=hxv.1;unfold yV at this;omega),hb9⟩
  rotate_left
  refine ab (fun hy4=>?_) (fun hy4=>?_)
  obtain⟨cc1,cc2⟩:=dr (oQ cs hcs.1) rfl hcs (vs:=[]) (fun β ok h=>trivial) (dB gW hgb (by simp))
  refine⟨cc1,_,cc2,?_⟩
  rintro v2 wt ⟨r,ct,⟨s2,rfl,hs2⟩,hct,gct,hres⟩
  obtain rfl:=hres.val
  have os2:eh (.string s2):=Nat.le_trans hs2 (by simp [maxLen])
  refine Stp.go ?_
  simp (maxSteps:=9999999) only[tt,Go.Cx.xc,Go.Cx.xl,Go.Cx.xOp,Go.Cx.xCall,Go.Cx.xStoreP,Go.Cx.xPlan,dW,Go.Cv.cg0,Go.Cv.cg1,Go.Cv.cOp,Go.Cv.cLoad,Go.Cv.cLoadA,Go.Cv.cStore,Go.Cv.cAlloc,Go.Cv.cBox,Go.Cv.cEnd,Go.Cv.cRet,Go.Cv.argsV,Go.Cv.regsV,Go.Vc.oneCell,Go.Vc.guardSlot,Nat.add_zero,seval,true_implies,not_true_eq_false,false_implies,and_true,true_and,not_false_eq_true,forall_const,imp_self,implies_true]
  have gX:=gW.trans gct
  refine il (ChL.at gX hbx (by simpa using hbxb)) (Lh.zero _) (by simp) fun w9 hb9 g9 e9=>?_
  have hb9:w9.heap[bx]?=some (.cells #[.int .i64 k,.int .i64 o,.bool n,.int .i64 x.kind,.int .i64 x.num,.string x.text,.string q,.string s2,.slice ka ks.length kcap,.slice sa ss.length scap] 46 (0,0)):=hb9
  simp (maxSteps:=9999999) only[tt,Go.Cx.xc,Go.Cx.xl,Go.Cx.xOp,Go.Cx.xCall,Go.Cx.xStoreP,Go.Cx.xPlan,dW,Go.Cv.cg0,Go.Cv.cg1,Go.Cv.cOp,Go.Cv.cLoad,Go.Cv.cLoadA,Go.Cv.cStore,Go.Cv.cAlloc,Go.Cv.cBox,Go.Cv.cEnd,Go.Cv.cRet,Go.Cv.argsV,Go.Cv.regsV,Go.Vc.oneCell,Go.Vc.guardSlot,Nat.add_zero,seval,true_implies,not_true_eq_false,false_implies,and_true,true_and,not_false_eq_true,forall_const,imp_self,implies_true]
  have T9:IW k o n x q m ks ss w2 b bx ka sa kcap scap w9:=⟨k,o,n,x,q,s2,wt,ct,gX,g9,hct,⟨ox,oq,os2⟩,mJ aa id,hb9⟩
  rotate_left
  refine ab (fun hy5=>?_) (fun hy5=>?_)
  obtain⟨cc1,cc2⟩:=dr (oQ cs hcs.1) rfl hcs (vs:=[]) (fun β ok h=>trivial) (dB gW hgb (by simp))
  refine⟨cc1,_,cc2,?_⟩
  rintro v2 wt ⟨r,ct,⟨s2,rfl,hs2⟩,hct,gct,hres⟩
  obtain rfl:=hres.val
  have os2:eh (.string s2):=Nat.le_trans hs2 (by simp [maxLen])
  refine Stp.go ?_
  simp (maxSteps:=9999999) only[tt,Go.Cx.xc,Go.Cx.xl,Go.Cx.xOp,Go.Cx.xCall,Go.Cx.xStoreP,Go.Cx.xPlan,dW,Go.Cv.cg0,Go.Cv.cg1,Go.Cv.cOp,Go.Cv.cLoad,Go.Cv.cLoadA,Go.Cv.cStore,Go.Cv.cAlloc,Go.Cv.cBox,Go.Cv.cEnd,Go.Cv.cRet,Go.Cv.argsV,Go.Cv.regsV,Go.Vc.oneCell,Go.Vc.guardSlot,Nat.add_zero,seval,true_implies,not_true_eq_false,false_implies,and_true,true_and,not_false_eq_true,forall_const,imp_self,implies_true]
  have gX:=gW.trans gct
  refine il (ChL.at gX hbx (by simpa using hbxb)) (Lh.zero _) (by simp) fun w9 hb9 g9 e9=>?_
  have hb9:w9.heap[bx]?=some (.cells #[.int .i64 k,.int .i64 o,.bool n,.int .i64 x.kind,.int .i64 x.num,.string x.text,.string s2,.string m,.slice ka ks.length kcap,.slice sa ss.length scap] 46 (0,0)):=hb9
  simp (maxSteps:=9999999) only[tt,Go.Cx.xc,Go.Cx.xl,Go.Cx.xOp,Go.Cx.xCall,Go.Cx.xStoreP,Go.Cx.xPlan,dW,Go.Cv.cg0,Go.Cv.cg1,Go.Cv.cOp,Go.Cv.cLoad,Go.Cv.cLoadA,Go.Cv.cStore,Go.Cv.cAlloc,Go.Cv.cBox,Go.Cv.cEnd,Go.Cv.cRet,Go.Cv.argsV,Go.Cv.regsV,Go.Vc.oneCell,Go.Vc.guardSlot,Nat.add_zero,seval,true_implies,not_true_eq_false,false_implies,and_true,true_and,not_false_eq_true,forall_const,imp_self,implies_true]
  have T9:IW k o n x q m ks ss w2 b bx ka sa kcap scap w9:=⟨k,o,n,x,s2,m,wt,ct,gX,g9,hct,⟨ox,os2,om⟩,mJ aa id,hb9⟩
  rotate_left
  refine ab (fun hy6=>?_) (fun hy6=>?_)
  ·try simp (maxSteps:=9999999) only[tt,Go.Cx.xc,Go.Cx.xl,Go.Cx.xOp,Go.Cx.xCall,Go.Cx.xStoreP,Go.Cx.xPlan,dW,Go.Cv.cg0,Go.Cv.cg1,Go.Cv.cOp,Go.Cv.cLoad,Go.Cv.cLoadA,Go.Cv.cStore,Go.Cv.cAlloc,Go.Cv.cBox,Go.Cv.cEnd,Go.Cv.cRet,Go.Cv.argsV,Go.Cv.regsV,Go.Vc.oneCell,Go.Vc.guardSlot,Nat.add_zero,seval,true_implies,not_true_eq_false,false_implies,and_true,true_and,not_false_eq_true,forall_const,imp_self,implies_true]
   refine⟨ac,xDrawn.intro (.take 0 (.take 2 (.br 1 (.br 3 (.br 4 (.br 5 (.take 6 (.br 7 .done .nobr)) .nobr) .nobr) .nobr) (.br 3 (.take 1 (.br 4 (.br 5 (.take 6 (.br 7 .done .nobr)) .nobr) .nobr)) .nobr)))) ae fun wd pd gd=>?_⟩
   have hcd:=hcs.keep (gd.chl []) (by simp)
   have gD:=gW.trans (gd.chl _)
   have hbxd:=ChL.at gD hbx (by simpa using hbxb)
   simp (maxSteps:=9999999) only[tt,Go.Cx.xc,Go.Cx.xl,Go.Cx.xOp,Go.Cx.xCall,Go.Cx.xStoreP,Go.Cx.xPlan,dW,Go.Cv.cg0,Go.Cv.cg1,Go.Cv.cOp,Go.Cv.cLoad,Go.Cv.cLoadA,Go.Cv.cStore,Go.Cv.cAlloc,Go.Cv.cBox,Go.Cv.cEnd,Go.Cv.cRet,Go.Cv.argsV,Go.Cv.regsV,Go.Vc.oneCell,Go.Vc.guardSlot,Nat.add_zero,seval,true_implies,not_true_eq_false,false_implies,and_true,true_and,not_false_eq_true,forall_const,imp_self,implies_true]
   refine ab ?_ ?_
   all_goals
    try refine⟨_,bC hbxd (j:=8) rfl,?_⟩
    try simp (maxSteps:=9999999) only[tt,Go.Cx.xc,Go.Cx.xl,Go.Cx.xOp,Go.Cx.xCall,Go.Cx.xStoreP,Go.Cx.xPlan,dW,Go.Cv.cg0,Go.Cv.cg1,Go.Cv.cOp,Go.Cv.cLoad,Go.Cv.cLoadA,Go.Cv.cStore,Go.Cv.cAlloc,Go.Cv.cBox,Go.Cv.cEnd,Go.Cv.cRet,Go.Cv.argsV,Go.Cv.regsV,Go.Vc.oneCell,Go.Vc.guardSlot,Nat.add_zero,seval,true_implies,not_true_eq_false,false_implies,and_true,true_and,not_false_eq_true,forall_const,imp_self,implies_true]
    obtain⟨cc1,cc2⟩:=dr (qN 0 cs hcs.1) rfl hcd (vs:=[]) (fun β ok h=>trivial) (dB gD hgb (by simp))
    refine⟨cc1,_,cc2,?_⟩
    rintro v2 wt ⟨r,ct,⟨ec,Ek,Es,rfl,hec⟩,hct,gct,hres⟩
    obtain⟨vv,G0,rfl,hvv,hnew,hwl⟩:=hres.tdw (mt ec.row [Ek,Es] (by obtain⟨ek,eo,en,ev,eq,em,eks,ess⟩:=ec;rw[am];rfl))
    have hx0:OwnT wt ec.row vv G0:=⟨hvv,hnew.nodup,hnew.own,hwl⟩
    refine Stp.go ?_
    try simp (maxSteps:=9999999) only[tt,Go.Cx.xc,Go.Cx.xl,Go.Cx.xOp,Go.Cx.xCall,Go.Cx.xStoreP,Go.Cx.xPlan,dW,Go.Cv.cg0,Go.Cv.cg1,Go.Cv.cOp,Go.Cv.cLoad,Go.Cv.cLoadA,Go.Cv.cStore,Go.Cv.cAlloc,Go.Cv.cBox,Go.Cv.cEnd,Go.Cv.cRet,Go.Cv.argsV,Go.Cv.regsV,Go.Vc.oneCell,Go.Vc.guardSlot,Nat.add_zero,seval,true_implies,not_true_eq_false,false_implies,and_true,true_and,not_false_eq_true,forall_const,imp_self,implies_true]
    try refine⟨_,bC (ChL.at gct hbxd (by simpa using hbxb)) (j:=8) rfl,?_⟩
    simp (maxSteps:=9999999) only[tt,Go.Cx.xc,Go.Cx.xl,Go.Cx.xOp,Go.Cx.xCall,Go.Cx.xStoreP,Go.Cx.xPlan,dW,Go.Cv.cg0,Go.Cv.cg1,Go.Cv.cOp,Go.Cv.cLoad,Go.Cv.cLoadA,Go.Cv.cStore,Go.Cv.cAlloc,Go.Cv.cBox,Go.Cv.cEnd,Go.Cv.cRet,Go.Cv.argsV,Go.Cv.regsV,Go.Vc.oneCell,Go.Vc.guardSlot,Nat.add_zero,seval,true_implies,not_true_eq_false,false_implies,and_true,true_and,not_false_eq_true,forall_const,imp_self,implies_true,Go.Cx.xBuildS,Go.Cx.valsV,Go.Cx.cellsL,Go.Dv.ev,reduceIte]
    refine⟨ae,fun u hu=>?_,fun bi wi hbi hwi=>?_⟩
    ·rw[List.mem_singleton.1 hu];show vv.toArray.size=10;rw[List.size_toArray,hvv.length,aJ]
    obtain⟨hbi',gi⟩:=gH hbi hwi
    have gWi:=(gD.trans gct).trans (gi.chl _)
    have hKi:=hK.keep gWi hbK
    have szd:w2.heap.size<=wd.heap.size:=gD.size
    have szi:w2.heap.size<=wi.heap.size:=gWi.size
    have ltK:∀y∈Fk,y<w.heap.size:=fun y hy=>hlF y (by simp [hy])
    have s0:w.heap.size<=w2.heap.size:=hgr.size
    have nG:∀y∈G0,w2.heap.size<=y:=fun y hy=>Nat.le_trans szd (hnew.new y hy)
    have kl:ks.length<=1000000:=by
     have:∀l:List Expr,l.length<=bw l:=fun l=>by rw[aP];omega
     have:=this ks
     rw[bh] at hsE
     omega
    refine Ej (e:=46) (sz:=10) (bytes:=136) (eu:=46) ae ae ae ah hKi (bV aJ ks) (hx0.keep (gi.chl []) (by simp)) (aJ _) (fun y hy h=>by have:=nG y h;have:=ltK y hy;omega) ⟨by rw[hvv.length,aJ],.inr ⟨bi,0,rfl,fun j v hj=>cC (cs:=vv) hbi' (r:=[]) (by simp) j v hj⟩⟩ (fun u hu=>by rw[Go.Vc.oneCell_eq];exact hvv.oneCell u hu) ⟨by simp only[maxLen];omega,aa⟩ fun v w9 F' hO hF' gF=>?_
    obtain⟨v',e9,⟨na,ncap,rfl,_⟩,_⟩:=hO.one
    injection e9 with e9
    subst e9
    have bF:∀y,y ∉ Fk++Fs->y ∉ Fk:=fun y h hy=>h (by simp [hy])
    have hb9x:=ChL.at gF (ChL.at gWi hbx (by simpa using hbxb)) (bF _ hbx')
    have hb9z:=ChL.at gF (ChL.at gWi hbz (by simpa using hbzb)) (bF _ hbz')
    have hc9:=(hct.keep (gi.chl []) (by simp)).keep gF (bF _ hbF)
    simp (maxSteps:=9999999) only[tt,Go.Cx.xc,Go.Cx.xl,Go.Cx.xOp,Go.Cx.xCall,Go.Cx.xStoreP,Go.Cx.xPlan,dW,Go.Cv.cg0,Go.Cv.cg1,Go.Cv.cOp,Go.Cv.cLoad,Go.Cv.cLoadA,Go.Cv.cStore,Go.Cv.cAlloc,Go.Cv.cBox,Go.Cv.cEnd,Go.Cv.cRet,Go.Cv.argsV,Go.Cv.regsV,Go.Vc.oneCell,Go.Vc.guardSlot,Nat.add_zero,seval,true_implies,not_true_eq_false,false_implies,and_true,true_and,not_false_eq_true,forall_const,imp_self,implies_true]
    refine il hb9x (Lh.zero _) (by simp) fun w10 hb10 g10 Da=>?_
    have hb10:w10.heap[bx]?=some (.cells #[.int .i64 k,.int .i64 o,.bool n,.int .i64 x.kind,.int .i64 x.num,.string x.text,.string q,.string m,.slice na (ks.length+1) ncap,.slice sa ss.length scap] 46 (0,0)):=hb10
    simp (maxSteps:=9999999) only[tt,Go.Cx.xc,Go.Cx.xl,Go.Cx.xOp,Go.Cx.xCall,Go.Cx.xStoreP,Go.Cx.xPlan,dW,Go.Cv.cg0,Go.Cv.cg1,Go.Cv.cOp,Go.Cv.cLoad,Go.Cv.cLoadA,Go.Cv.cStore,Go.Cv.cAlloc,Go.Cv.cBox,Go.Cv.cEnd,Go.Cv.cRet,Go.Cv.argsV,Go.Cv.regsV,Go.Vc.oneCell,Go.Vc.guardSlot,Nat.add_zero,seval,true_implies,not_true_eq_false,false_implies,and_true,true_and,not_false_eq_true,forall_const,imp_self,implies_true]
    have hbz10:=ChL.at g10 hb9z (by simpa using hzx)
    refine⟨[.int .i64 k,.int .i64 o,.bool n,.int .i64 x.kind,.int .i64 x.num,.string x.text,.string q,.string m,.slice na (ks.length+1) ncap,.slice sa ss.length scap],rfl,cC hb10 (r:=[]) (by simp),?_⟩
    simp (maxSteps:=9999999) only[tt,Go.Cx.xc,Go.Cx.xl,Go.Cx.xOp,Go.Cx.xCall,Go.Cx.xStoreP,Go.Cx.xPlan,dW,Go.Cv.cg0,Go.Cv.cg1,Go.Cv.cOp,Go.Cv.cLoad,Go.Cv.cLoadA,Go.Cv.cStore,Go.Cv.cAlloc,Go.Cv.cBox,Go.Cv.cEnd,Go.Cv.cRet,Go.Cv.argsV,Go.Cv.regsV,Go.Vc.oneCell,Go.Vc.guardSlot,Nat.add_zero,seval,true_implies,not_true_eq_false,false_implies,and_true,true_and,not_false_eq_true,forall_const,imp_self,implies_true]
    refine⟨by first|rfl|trivial,_,_,_,hbz10,Lh.zero _,by simp,fun u hu=>?_,_,rfl,Stp.go ?_⟩
    ·simp only[List.mem_cons,List.not_mem_nil,or_false] at hu
     rcases hu with rfl|rfl|rfl|rfl|rfl|rfl|rfl|rfl|rfl|rfl<;>rfl
    generalize hw8:World.setRow w10 bz _=w8
    have hw8:World.setRow w10 bz ([.int .i64 k,.int .i64 o,.bool n,.int .i64 x.kind,.int .i64 x.num,.string x.text,.string q,.string m,.slice na (ks.length+1) ncap,.slice sa ss.length scap]:List Value).toArray=w8:=by rw[<-hw8];rfl
    have hbz8:=setRow_heap w10 bz _ ([.int .i64 k,.int .i64 o,.bool n,.int .i64 x.kind,.int .i64 x.num,.string x.text,.string q,.string m,.slice na (ks.length+1) ncap,.slice sa ss.length scap]:List Value).toArray 46 _ hbz10
    have g8:=fx hbz10 ([.int .i64 k,.int .i64 o,.bool n,.int .i64 x.kind,.int .i64 x.num,.string x.text,.string q,.string m,.slice na (ks.length+1) ncap,.slice sa ss.length scap]:List Value).toArray
    rw[hw8] at hbz8 g8
    refine⟨[.int .i64 k,.int .i64 o,.bool n,.int .i64 x.kind,.int .i64 x.num,.string x.text,.string q,.string m,.slice na (ks.length+1) ncap,.slice sa ss.length scap],rfl,cC hbz8 (r:=[]) (by simp),?_⟩
    have S8:=(((hS.keep gWi hbS).keep gF (fun y hy h=>hKS y h hy)).keep g10 hxS).keep g8 hzS
    have sx:bx<w2.heap.size/\bz<w2.heap.size:=⟨(Array.getElem?_eq_some_iff.1 hbx).1,(Array.getElem?_eq_some_iff.1 hbz).1⟩
    have fin':∀y∈F',y∈Fk∨w2.heap.size<=y:=fun y hy=>(hF' y hy).imp id fun h=>h.elim (nG y) aa
    have nx:∀y∈F',y ∉ [bx]:=fun y hy e=>by
     rcases fin' y hy with h|h
     ·exact hxK y h e
     ·have e:y=bx:=by simpa using e
      omega
    have nz:∀y∈F',y ∉ [bz]:=fun y hy e=>by
     rcases fin' y hy with h|h
     ·exact hzK y h e
     ·have e:y=bz:=by simpa using e
      omega
    have K8:=(hO.keep g10 nx).keep g8 nz
    have e2:[D.sl (ks.length+1) (ks.flatMap Expr.row++ec.row)]=[D.sl (ks++[ec]).length ((ks++[ec]).flatMap Expr.row)]:=by simp
    rw[e2] at K8
    exact⟨_,_,_,ct,rfl,row_mk ox oq om K8 S8 (fun y hy h=>(fin' y hy).elim (fun k=>hKS y k h) fun k=>by have:=hlF y (by simp [h]);omega),fun y hy=>(List.mem_append.1 hy).elim (fun h=>(fin' y h).imp (fun h=>by simp [h]) aa) (fun h=>.inl (by simp [h])),gY (b:=bx) (gY (b:=bz) ((((((hgr.mono (by simp)).trans (gWi.mono (by simp))).trans (gF.mono (by intro y hy;simp [hy]))).trans (g10.mono (by simp))).trans (g8.mono (by simp)):ChL (bz::bx::b::(Fk++Fs)) w w8)) (by have:=hg1.size;omega)) aa,(hc9.keep g10 (by simpa using fun h=>hbxb h.symm)).keep g8 (by simpa using fun h=>hbzb h.symm),IA hec⟩
  ·try simp (maxSteps:=9999999) only[tt,Go.Cx.xc,Go.Cx.xl,Go.Cx.xOp,Go.Cx.xCall,Go.Cx.xStoreP,Go.Cx.xPlan,dW,Go.Cv.cg0,Go.Cv.cg1,Go.Cv.cOp,Go.Cv.cLoad,Go.Cv.cLoadA,Go.Cv.cStore,Go.Cv.cAlloc,Go.Cv.cBox,Go.Cv.cEnd,Go.Cv.cRet,Go.Cv.argsV,Go.Cv.regsV,Go.Vc.oneCell,Go.Vc.guardSlot,Nat.add_zero,seval,true_implies,not_true_eq_false,false_implies,and_true,true_and,not_false_eq_true,forall_const,imp_self,implies_true]
   refine⟨_,bC (ChL.at gW hbx (by simpa using hbxb)) (j:=9) rfl,?_⟩
   simp (maxSteps:=9999999) only[tt,Go.Cx.xc,Go.Cx.xl,Go.Cx.xOp,Go.Cx.xCall,Go.Cx.xStoreP,Go.Cx.xPlan,dW,Go.Cv.cg0,Go.Cv.cg1,Go.Cv.cOp,Go.Cv.cLoad,Go.Cv.cLoadA,Go.Cv.cStore,Go.Cv.cAlloc,Go.Cv.cBox,Go.Cv.cEnd,Go.Cv.cRet,Go.Cv.argsV,Go.Cv.regsV,Go.Vc.oneCell,Go.Vc.guardSlot,Nat.add_zero,seval,true_implies,not_true_eq_false,false_implies,and_true,true_and,not_false_eq_true,forall_const,imp_self,implies_true]
   refine⟨rfl,?_⟩
   simp (maxSteps:=9999999) only[tt,Go.Cx.xc,Go.Cx.xl,Go.Cx.xOp,Go.Cx.xCall,Go.Cx.xStoreP,Go.Cx.xPlan,dW,Go.Cv.cg0,Go.Cv.cg1,Go.Cv.cOp,Go.Cv.cLoad,Go.Cv.cLoadA,Go.Cv.cStore,Go.Cv.cAlloc,Go.Cv.cBox,Go.Cv.cEnd,Go.Cv.cRet,Go.Cv.argsV,Go.Cv.regsV,Go.Vc.oneCell,Go.Vc.guardSlot,Nat.add_zero,seval,true_implies,not_true_eq_false,false_implies,and_true,true_and,not_false_eq_true,forall_const,imp_self,implies_true,Go.Cx.xBuildS,Go.Cx.valsV,Go.Cx.cellsL,Go.Dv.ev,reduceIte]
   refine⟨ae,fun u hu=>?_,fun bi wi hbi hwi=>?_⟩
   ·rw[List.mem_singleton.1 hu];rfl
   obtain⟨hbi',gi⟩:=gH hbi hwi
   have gWi:=gW.trans (gi.chl _)
   have hSi:=hS.keep gWi hbS
   refine Ej (e:=29) (sz:=6) (bytes:=112) (eu:=29) ae ae ae ah hSi (bV Query.row_len ss) (Ix wi) (Query.row_len _) (by simp) ⟨rfl,.inr ⟨bi,0,rfl,fun j v hj=>cC (cs:=Kl) hbi' (r:=[]) (by simp) j v hj⟩⟩ (fun u hu=>?_) ⟨?_,?_⟩ fun v w9 F' hO hF' gF=>?_
   ·simp only[Kl,List.mem_cons,List.not_mem_nil,or_false] at hu
    rcases hu with rfl|rfl|rfl|rfl|rfl|rfl<;>rfl
   ·have:=kV ss
    rw[bh] at hsE
    simp only[maxLen]
    omega
   ·have:=kV ss
    rw[bh] at hsE
    omega
   obtain⟨v',e9,⟨na,ncap,rfl,_⟩,_⟩:=hO.one
   injection e9 with e9
   subst e9
   have fsb:Fs ⊆ Fk++Fs:=fun y hy=>by simp [hy]
   have bF:∀y,y ∉ Fk++Fs->y ∉ Fs:=fun y h hy=>h (fsb hy)
   have hb9x:=ChL.at gF (ChL.at gWi hbx (by simpa using hbxb)) (bF _ hbx')
   have hb9z:=ChL.at gF (ChL.at gWi hbz (by simpa using hbzb)) (bF _ hbz')
   have hc9:=(hcs.keep (gi.chl []) (by simp)).keep gF (bF _ hbF)
   simp (maxSteps:=9999999) only[tt,Go.Cx.xc,Go.Cx.xl,Go.Cx.xOp,Go.Cx.xCall,Go.Cx.xStoreP,Go.Cx.xPlan,dW,Go.Cv.cg0,Go.Cv.cg1,Go.Cv.cOp,Go.Cv.cLoad,Go.Cv.cLoadA,Go.Cv.cStore,Go.Cv.cAlloc,Go.Cv.cBox,Go.Cv.cEnd,Go.Cv.cRet,Go.Cv.argsV,Go.Cv.regsV,Go.Vc.oneCell,Go.Vc.guardSlot,Nat.add_zero,seval,true_implies,not_true_eq_false,false_implies,and_true,true_and,not_false_eq_true,forall_const,imp_self,implies_true]
   refine il hb9x (Lh.zero _) (by simp) fun w10 hb10 g10 Da=>?_
   have hb10:w10.heap[bx]?=some (.cells #[.int .i64 k,.int .i64 o,.bool n,.int .i64 x.kind,.int .i64 x.num,.string x.text,.string q,.string m,.slice ka ks.length kcap,.slice na (ss.length+1) ncap] 46 (0,0)):=hb10
   simp (maxSteps:=9999999) only[tt,Go.Cx.xc,Go.Cx.xl,Go.Cx.xOp,Go.Cx.xCall,Go.Cx.xStoreP,Go.Cx.xPlan,dW,Go.Cv.cg0,Go.Cv.cg1,Go.Cv.cOp,Go.Cv.cLoad,Go.Cv.cLoadA,Go.Cv.cStore,Go.Cv.cAlloc,Go.Cv.cBox,Go.Cv.cEnd,Go.Cv.cRet,Go.Cv.argsV,Go.Cv.regsV,Go.Vc.oneCell,Go.Vc.guardSlot,Nat.add_zero,seval,true_implies,not_true_eq_false,false_implies,and_true,true_and,not_false_eq_true,forall_const,imp_self,implies_true]
   have hbz10:=ChL.at g10 hb9z (by simpa using hzx)
   refine⟨[.int .i64 k,.int .i64 o,.bool n,.int .i64 x.kind,.int .i64 x.num,.string x.text,.string q,.string m,.slice ka ks.length kcap,.slice na (ss.length+1) ncap],rfl,cC hb10 (r:=[]) (by simp),?_⟩
   simp (maxSteps:=9999999) only[tt,Go.Cx.xc,Go.Cx.xl,Go.Cx.xOp,Go.Cx.xCall,Go.Cx.xStoreP,Go.Cx.xPlan,dW,Go.Cv.cg0,Go.Cv.cg1,Go.Cv.cOp,Go.Cv.cLoad,Go.Cv.cLoadA,Go.Cv.cStore,Go.Cv.cAlloc,Go.Cv.cBox,Go.Cv.cEnd,Go.Cv.cRet,Go.Cv.argsV,Go.Cv.regsV,Go.Vc.oneCell,Go.Vc.guardSlot,Nat.add_zero,seval,true_implies,not_true_eq_false,false_implies,and_true,true_and,not_false_eq_true,forall_const,imp_self,implies_true]
   refine⟨by first|rfl|trivial,_,_,_,hbz10,Lh.zero _,by simp,fun u hu=>?_,_,rfl,Stp.go ?_⟩
   ·simp only[List.mem_cons,List.not_mem_nil,or_false] at hu
    rcases hu with rfl|rfl|rfl|rfl|rfl|rfl|rfl|rfl|rfl|rfl<;>rfl
   generalize hw8:World.setRow w10 bz _=w8
   have hw8:World.setRow w10 bz ([.int .i64 k,.int .i64 o,.bool n,.int .i64 x.kind,.int .i64 x.num,.string x.text,.string q,.string m,.slice ka ks.length kcap,.slice na (ss.length+1) ncap]:List Value).toArray=w8:=by rw[<-hw8];rfl
   have hbz8:=setRow_heap w10 bz _ ([.int .i64 k,.int .i64 o,.bool n,.int .i64 x.kind,.int .i64 x.num,.string x.text,.string q,.string m,.slice ka ks.length kcap,.slice na (ss.length+1) ncap]:List Value).toArray 46 _ hbz10
   have g8:=fx hbz10 ([.int .i64 k,.int .i64 o,.bool n,.int .i64 x.kind,.int .i64 x.num,.string x.text,.string q,.string m,.slice ka ks.length kcap,.slice na (ss.length+1) ncap]:List Value).toArray
   rw[hw8] at hbz8 g8
   refine⟨[.int .i64 k,.int .i64 o,.bool n,.int .i64 x.kind,.int .i64 x.num,.string x.text,.string q,.string m,.slice ka ks.length kcap,.slice na (ss.length+1) ncap],rfl,cC hbz8 (r:=[]) (by simp),?_⟩
   have K8:=(((hK.keep gWi hbK).keep gF hKS).keep g10 hxK).keep g8 hzK
   have si:w2.heap.size<=wi.heap.size:=gWi.size
   have sx:bx<w2.heap.size/\bz<w2.heap.size:=⟨(Array.getElem?_eq_some_iff.1 hbx).1,(Array.getElem?_eq_some_iff.1 hbz).1⟩
   have fin':∀y∈F',y∈Fs∨w2.heap.size<=y:=fun y hy=>(hF' y hy).imp id fun h=>h.elim (fun h=>by cases h) aa
   have nx:∀y∈F',y ∉ [bx]:=fun y hy e=>by
    rcases fin' y hy with h|h
    ·exact hxS y h e
    ·have e:y=bx:=by simpa using e
     omega
   have nz:∀y∈F',y ∉ [bz]:=fun y hy e=>by
    rcases fin' y hy with h|h
    ·exact hzS y h e
    ·have e:y=bz:=by simpa using e
     omega
   have S8:=(hO.keep g10 nx).keep g8 nz
   have e2:[D.sl (ss.length+1) (ss.flatMap Query.row++q0.row)]=[D.sl (ss++[q0]).length ((ss++[q0]).flatMap Query.row)]:=by simp
   rw[e2] at S8
   have s0:w.heap.size<=w2.heap.size:=hgr.size
   exact⟨_,_,_,cs,rfl,row_mk ox oq om K8 S8 (fun y hy h=>(fin' y h).elim (hKS y hy) fun h=>by have:=hlF y (by simp [hy]);omega),fun y hy=>(List.mem_append.1 hy).elim (fun h=>.inl (by simp [h])) (fun h=>(fin' y h).imp (fun h=>by simp [h]) aa),gY (b:=bx) (gY (b:=bz) ((((((hgr.mono (by simp)).trans (gWi.mono (by simp))).trans (gF.mono (by intro y hy;simp [hy]))).trans (g10.mono (by simp))).trans (g8.mono (by simp)):ChL (bz::bx::b::(Fk++Fs)) w w8)) (by have:=hg1.size;omega)) aa,(hc9.keep g10 (by simpa using fun h=>hbxb h.symm)).keep g8 (by simpa using fun h=>hbzb h.symm),Iy⟩
  all_goals
   obtain⟨k',o',n',x',q',m',wt,ct,gX,g9,hct,⟨ox',oq',om'⟩,hbn,hb9⟩:=T9
   have hbz9:=ChL.at g9 (ChL.at gX hbz (by simpa using hbzb)) (by simpa using hzx)
   refine⟨[.int .i64 k',.int .i64 o',.bool n',.int .i64 x'.kind,.int .i64 x'.num,.string x'.text,.string q',.string m',.slice ka ks.length kcap,.slice sa ss.length scap],rfl,cC hb9 (r:=[]) (by simp),?_⟩
   simp (maxSteps:=9999999) only[tt,Go.Cx.xc,Go.Cx.xl,Go.Cx.xOp,Go.Cx.xCall,Go.Cx.xStoreP,Go.Cx.xPlan,dW,Go.Cv.cg0,Go.Cv.cg1,Go.Cv.cOp,Go.Cv.cLoad,Go.Cv.cLoadA,Go.Cv.cStore,Go.Cv.cAlloc,Go.Cv.cBox,Go.Cv.cEnd,Go.Cv.cRet,Go.Cv.argsV,Go.Cv.regsV,Go.Vc.oneCell,Go.Vc.guardSlot,Nat.add_zero,seval,true_implies,not_true_eq_false,false_implies,and_true,true_and,not_false_eq_true,forall_const,imp_self,implies_true]
   refine⟨by first|rfl|trivial,_,_,_,hbz9,Lh.zero _,by simp,fun u hu=>?_,_,rfl,Stp.go ?_⟩
   ·simp only[List.mem_cons,List.not_mem_nil,or_false] at hu
    rcases hu with rfl|rfl|rfl|rfl|rfl|rfl|rfl|rfl|rfl|rfl<;>rfl
   generalize hw8:World.setRow w9 bz _=w8
   have hw8:World.setRow w9 bz ([.int .i64 k',.int .i64 o',.bool n',.int .i64 x'.kind,.int .i64 x'.num,.string x'.text,.string q',.string m',.slice ka ks.length kcap,.slice sa ss.length scap]:List Value).toArray=w8:=by rw[<-hw8];rfl
   have hbz8:=setRow_heap w9 bz _ ([.int .i64 k',.int .i64 o',.bool n',.int .i64 x'.kind,.int .i64 x'.num,.string x'.text,.string q',.string m',.slice ka ks.length kcap,.slice sa ss.length scap]:List Value).toArray 46 _ hbz9
   have g8:=fx hbz9 ([.int .i64 k',.int .i64 o',.bool n',.int .i64 x'.kind,.int .i64 x'.num,.string x'.text,.string q',.string m',.slice ka ks.length kcap,.slice sa ss.length scap]:List Value).toArray
   rw[hw8] at hbz8 g8
   refine⟨[.int .i64 k',.int .i64 o',.bool n',.int .i64 x'.kind,.int .i64 x'.num,.string x'.text,.string q',.string m',.slice ka ks.length kcap,.slice sa ss.length scap],rfl,cC hbz8 (r:=[]) (by simp),?_⟩
   have K8:=((hK.keep gX hbK).keep g9 hxK).keep g8 hzK
   have S8:=((hS.keep gX hbS).keep g9 hxS).keep g8 hzS
   exact⟨_,_,_,ct,rfl,row_mk ox' oq' om' K8 S8 hKS,fun y hy=>.inl hy,gY (b:=bx) (gY (b:=bz) (((((hgr.mono (by simp)).trans (gX.mono (by simp))).trans (g9.mono (by simp))).trans (g8.mono (by simp)):ChL (bz::bx::b::(Fk++Fs)) w w8)) (by have:=hg1.size;omega)) aa,(hct.keep g9 (by simpa using fun h=>hbxb h.symm)).keep g8 (by simpa using fun h=>hbzb h.symm),hbn⟩
end
theorem yY {w:World} {b o:Nat} {v:Value} (h:w.cell? ⟨b,o,none⟩=some v):∃cs ty lh,w.heap[b]?=some (.cells cs ty lh)/\cs[o]?=some v:=by
 unfold World.cell? at h
 cases hb:w.heap[b]? with
 |none=>simp [hb] at h
 |some ob=>
  cases ob<;>simp [hb] at h
  exact⟨_,_,_,rfl,by first|exact h|simpa using h⟩
theorem Ec {w:World} {bs:List Int} {v:Value} {G:List Nat} (h:CellF w (.sl bs.length (bs.flatMap km)) v G) :
 ∃I:CodeOut,@Out.code I.toOut=v/\∀own:Nat->Prop,@GlW noOut w own->(∀x∈G,¬own x) -> @GlW I.toOut w own:=by
 obtain⟨a,cap,rfl,h1,h2,h3,hc⟩:=h
 have hlen:(bs.flatMap km).length=bs.length:=by rw[bV sB,Nat.mul_one]
 rcases hc with⟨e,rfl⟩|⟨hne,b,o,F,rfl,hr,rfl⟩
 ·have h0:bs.length=0:=by rw[<-hlen,e];rfl
  refine⟨{ vars:=[],code:=.slice a bs.length cap,ok:=⟨a,bs.length,cap,rfl,Nat.le_trans h1 h2,.inl h0⟩ },rfl,fun own hg _ t ht=>?_⟩
  exact hg t ht
 ·obtain⟨vs,hcells,hv⟩:=hr.vals
  have hvl:vs.length=bs.length:=by rw[hv.length,hlen]
  have hpos:0<bs.length:=by
   rcases Nat.eq_zero_or_pos bs.length with e|e
   ·exact absurd (List.eq_nil_of_length_eq_zero (hlen.trans e)) hne
   ·exact e
  obtain⟨cs,ty,lh,hb,_⟩:=yY (hcells 0 (vs[0]'(by omega)) (by simp))
  refine⟨{ vars:=[(b,fun c=>c=cs)],code:=.slice (some ⟨b,o,none⟩) bs.length cap,ok:=⟨some ⟨b,o,none⟩,bs.length,cap,rfl,Nat.le_trans h1 h2,.inr ⟨b,o,_,rfl,List.mem_singleton.2 rfl,fun c hc j hj=>?_⟩⟩ },rfl,fun own hg hn t ht=>?_⟩
  ·subst hc
   have hj':j<vs.length:=by omega
   have hcj:=hcells j vs[j] (by rw[aC hj'])
   rw[cell_of_row w b (o+j) c ty lh hb] at hcj
   rw[hcj]
   have byte:∀(bs:List Int) (vs:List Value) (F:List Nat),ValsF w (bs.flatMap km) vs F->∀u∈vs,∃z:Int,u = .int .u8 z:=fun bs=>by
    induction bs with
    |nil=>
     intro vs F h u hu
     cases vs with
     |nil=>cases hu
     |cons _ _=>exact h.elim
    |cons x r ih=>
     intro vs F h u hu
     cases vs with
     |nil=>exact h.elim
     |cons y t=>
      obtain⟨F1,F2,h1,h2,_⟩:=h
      rcases List.mem_cons.1 hu with rfl|hu
      ·exact⟨x,h1.1⟩
      ·exact ih t F2 h2 u hu
   obtain⟨z,hz⟩:=byte bs vs F hv vs[j] (aM hj')
   exact⟨z,by rw[hz]⟩
  ·rcases List.mem_append.1 ht with ht|ht
   ·exact hg t (List.mem_append_left _ ht)
   ·have ht:t∈[(b,fun c=>c=cs)]:=ht
    rw[List.mem_singleton.1 ht]
    exact⟨hn b (by simp),cs,ty,lh,hb,rfl⟩
theorem BJ {w:World} {bs:List Int} {v:Value} {G:List Nat} (h:CellF w (.sl bs.length (bs.flatMap km)) v G) (hg:GlW w (fun _=>False)) :
 Go.Vc.callable Tryz.prog 72=true/\Calls Tryz.prog 72 #[v] w fun e w'=>∃r,e = .returned r/\∃b,r = .pointer (some ⟨b,0,none⟩)/\Gr w w'/\w.heap.size<=b/\∃(I:CodeOut) (c:Cur),@CurAt I w' b c /\ @GlW I.toOut w' (fun x=>x=b):=by
 obtain⟨h1,h2⟩:=Ge bs
 refine⟨h1,(h2 w (fun _=>none) (fun _=>True) [v] ⟨⟨G,h,fun _ _=>trivial,fun _ e=>by cases e⟩,trivial⟩ hg).mono ?_⟩
 rintro e w' ⟨b,cs,xs,ty,lh,rfl,⟨c,rfl,hi⟩,_,hb,hh,hl,hr,hk,hwd,ho1,ho2,ho3⟩
 have gr:Gr w w':=⟨hwd,hk,ho1,ho2,ho3⟩
 refine⟨_,rfl,b,rfl,gr,hb,?_⟩
 have hr:=hr (fun _=>none)
 have hxs:∃u G,xs = #[u,.int .i64 c.i,.int .i64 c.h]/\CellF w' (.sl c.b.length (c.b.flatMap km)) u G/\(∀x∈G,x≠b):=by
  have e:xs=xs.toList.toArray:=by simp
  rw[e]
  generalize xs.toList=l at hr
  match l,hr with
  | [u,_,_],⟨⟨G,h1,h2,_⟩,⟨rfl,_⟩,⟨rfl,_⟩,_⟩=>exact⟨u,G,rfl,h1,fun x hx=>(h2 x hx).1⟩
 obtain⟨u,G',rfl,hc,hn⟩:=hxs
 have hg':GlW w' (fun x=>x=b):=by
  refine GlW.mono (own:=fun _=>False) hg (fun y hy _=>hk y hy) fun y e hy=>?_
  omega
 obtain⟨I,hI,hgl⟩:=Ec hc
 refine⟨I,⟨c.i,c.h⟩,⟨hi,ty,lh,by rw[hI];exact hh,by simpa using hl,?_⟩,hgl _ hg' hn⟩
 rw[hI]
 obtain⟨a,cap,rfl,_⟩:=hc
 trivial
theorem IB {g:FuncId} {n:Nat} {ds:List D} {R:S->List (List C)->Prop} (hc:Go.Vc.callable Tryz.prog g=true)
 (h:∀(w:World) (v:Value) (G:List Nat),CellF w (.sl n ds) v G->GlW w (fun _=>False)->Calls Tryz.prog g #[v] w fun e w'=>∃r,e = .returned r/\∃s,R s []/\(bv (bb s)&&decide ((bb s).length<=900))=true/\(∀ β,RelS Tryz.prog w' β (fun b=>w.heap.size<=b) s r)/\Gr w w') :
 Cl Tryz.prog g [.c (.sl n ds none)] [] R:=by
 refine⟨hc,fun w β ok0 vs ha ho hg=>?_⟩
 have hpl:bv ([S.c (.sl n ds none)].flatMap bb)=true:=rfl
 obtain⟨e1,e2⟩:=j0 9500 hpl
 have el:lent [S.c (.sl n ds none)] []=[]:=by simp [lent,e2,gy]
 rw[e1] at ha
 obtain⟨v,G,rfl,hv⟩:∃v G,vs=[v]/\CellF w (.sl n ds) v G:=by
  match vs,ha with
  | [v],⟨⟨G,h1,_⟩,_⟩=>exact⟨v,G,rfl,h1⟩
 have ho':∀b,¬ownB (lent [S.c (.sl n ds none)] []) β b:=by rw[el];rintro b ⟨i,o,hl,_⟩;simp [Go.Dv.look] at hl
 refine (h w v G hv (hg.mono (fun _ _ _=>rfl) fun _ h _=>h.elim)).mono ?_
 rintro e w' ⟨v,rfl,r,hR,hp,hrel,hB⟩
 simp only[Bool.and_eq_true,decide_eq_true_eq] at hp
 obtain⟨k1,k2,k3,k4,k5,k6,k7⟩:=d9 (ρ:=[]) (L:=[]) hp.1
 have hbk:back r []=[]:=by simp [back,k2,gy]
 have hnb:∀b,¬ownB (back r []) β b:=by rw[hbk];rintro b ⟨i,o,hl,_⟩;simp [Go.Dv.look] at hl
 refine⟨v,r,[],β,rfl,hR,⟨?_,⟨fun i o hl=>?_,fun i j o o' b hl=>?_⟩,fun k hk=>absurd hk (Nat.not_lt_zero _),rfl,⟨hB.size,fun b hb _=>hB.keep b hb,fun b _ hb=>(hnb b hb).elim,fun b cs ty lh hc=>⟨cs,lh,(hB.keep b (bG hc)).trans hc,rfl⟩⟩,hB.size,⟨hB.os,hB.tape,hB.output⟩,⟨by simp [fps,k7,vE],fun b hb=>?_⟩,by simp [flat,k6,hp.2,lU]⟩⟩
 ·rw[nJ hp.1]
  exact (hrel β).st (ep fun b hb=>⟨hnb b,fun hlt=>by omega⟩)
 ·simp [hbk,Go.Dv.look] at hl
 ·simp [hbk,Go.Dv.look] at hl
 ·simp [fps,k7,vE] at hb
def QG (q:Query):Prop:=xO q/\szQuery q<=1048576
theorem JF {k:Nat} {q:Query} (hk:k<=3) (h:DrQ k q):xO q/\szQuery q<=41000:=by
 have h1:=h.sz
 have h2:=Gg hk
 rw[Lw] at h2
 exact⟨⟨h.li,fun x hx=>(h.ex x hx).rg⟩,aa⟩
section
variable [CodeOut] {d:Bool} {it:List Item} {fr:List Source} {wh:List Expr} {od:List SortKey} {li:Int}
theorem IC {l:Int} (h:xO (.mk d it fr wh od li)) (hs:szQuery (.mk d it fr wh od li)<=41000) (hl:l<=9223372036854775807):QG (.mk d it fr wh od l):=
 ⟨⟨hl,h.2⟩,by rw[bU] at hs ⊢;omega⟩
theorem ID (h:xO (.mk d it fr wh od li)) (hs:szQuery (.mk d it fr wh od li)<=41000):QG (.mk d [] fr wh od li):=
 ⟨⟨h.1,fun x hx=>h.2 x (by
   simp only[exprsQ,List.mem_append] at hx ⊢
   rcases hx with ((hx|hx)|hx)|hx
   ·cases hx
   ·exact .inl (.inl (.inr hx))
   ·exact .inl (.inr hx)
   ·exact .inr hx)⟩,by rw[bU] at hs ⊢;rw[fN];omega⟩
theorem H6 {s:Bool} {q a q' a':ByteArray} {e:Expr} (h:xO (.mk d (.mk s q e a::it) fr wh od li)) (hs:szQuery (.mk d (.mk s q e a::it) fr wh od li)<=41000) (h1:q'.size<=q.size+100) (h2:a'.size<=a.size+100):QG (.mk d (.mk s q' e a'::it) fr wh od li):=by
 have e0:aU (.mk s q' e a'::it)=aU (.mk s q e a::it):=by cases s<;>rfl
 refine⟨⟨h.1,fun x hx=>h.2 x (by simp only[exprsQ,e0] at hx ⊢;exact hx)⟩,?_⟩
 rw[bU,fN,iD] at hs ⊢
 omega
theorem JG {t a t':ByteArray} {on:List Expr} (h:xO (.mk d it (.mk t a on::fr) wh od li)) (hs:szQuery (.mk d it (.mk t a on::fr) wh od li)<=41000) (h1:t'.size<=100):QG (.mk d it (.mk t' a on::fr) wh od li):=by
 refine⟨⟨h.1,fun x hx=>h.2 x hx⟩,?_⟩
 rw[bU,cB,cM] at hs ⊢
 omega
theorem JH {t a:ByteArray} {on:List Expr} {y:Expr} (h:xO (.mk d it (.mk t a on::fr) wh od li)) (hs:szQuery (.mk d it (.mk t a on::fr) wh od li)<=41000) (h1:Rg y) (h2:szExpr y<=500000):QG (.mk d it (.mk t a [y]::fr) wh od li):=by
 refine⟨⟨h.1,fun x hx=>?_⟩,?_⟩
 ·simp only[exprsQ,List.flatMap_cons,Source.on,List.mem_append] at hx
  have h2:=fun z hz=>h.2 z (by simp only[exprsQ,List.flatMap_cons,Source.on,List.mem_append];exact hz)
  rcases hx with ((hx|hx|hx)|hx)|hx
  ·exact h2 x (.inl (.inl (.inl hx)))
  ·rw[List.mem_singleton.1 hx];exact h1
  ·exact h2 x (.inl (.inl (.inr (.inr hx))))
  ·exact h2 x (.inl (.inr hx))
  ·exact h2 x (.inr hx)
 ·rw[bU,cB,cM] at hs ⊢
  rw[bw,bw]
  omega
theorem JI {y:Expr} (h:xO (.mk d it fr wh od li)) (hs:szQuery (.mk d it fr wh od li)<=41000) (h1:Rg y) (h2:szExpr y<=500000):QG (.mk d it fr [y] od li):=by
 refine⟨⟨h.1,fun x hx=>?_⟩,?_⟩
 ·simp only[exprsQ,List.mem_append] at hx
  have h2:=fun z hz=>h.2 z (by simp only[exprsQ,List.mem_append];exact hz)
  rcases hx with ((hx|hx)|hx)|hx
  ·exact h2 x (.inl (.inl (.inl hx)))
  ·exact h2 x (.inl (.inl (.inr hx)))
  ·rw[List.mem_singleton.1 hx];exact h1
  ·exact h2 x (.inr hx)
 ·rw[bU] at hs ⊢
  rw[bw,bw]
  omega
theorem Ed {w:World} {vs:List Value} {F:List Nat} (h:OwnT w (Query.mk d it fr wh od li).row vs F) :
 ∃iv fv wv ov Fi Ff Fw Fo,vs=[.bool d,iv,fv,wv,ov,.int .i64 li]/\F=Fi++(Ff++(Fw++Fo))/\OwnT w [.sl it.length (it.flatMap Item.row)] [iv] Fi/\OwnT w [.sl fr.length (fr.flatMap Source.row)] [fv] Ff/\OwnT w [.sl wh.length (wh.flatMap Expr.row)] [wv] Fw/\OwnT w [.sl od.length (od.flatMap SortKey.row)] [ov] Fo:=by
 rw[aG] at h
 have h:OwnT w ([Value.bool d].map D.lit++([.sl it.length (it.flatMap Item.row)]++([.sl fr.length (fr.flatMap Source.row)]++([.sl wh.length (wh.flatMap Expr.row)]++([.sl od.length (od.flatMap SortKey.row)]++[Value.int .i64 li].map D.lit))))) vs F:=h
 obtain⟨v1,r1,F1,R1,rfl,rfl,h1,k1,_⟩:=h.split
 obtain⟨v2,r2,F2,R2,rfl,rfl,h2,k2,_⟩:=k1.split
 obtain⟨v3,r3,F3,R3,rfl,rfl,h3,k3,_⟩:=k2.split
 obtain⟨v4,r4,F4,R4,rfl,rfl,h4,k4,_⟩:=k3.split
 obtain⟨v5,r5,F5,R5,rfl,rfl,h5,k5,_⟩:=k4.split
 obtain⟨rfl,rfl,_⟩:=ko h1.val
 obtain⟨rfl,rfl,_⟩:=ko k5.val
 obtain⟨iv,rfl,_,_⟩:=h2.one
 obtain⟨fv,rfl,_,_⟩:=h3.one
 obtain⟨wv,rfl,_,_⟩:=h4.one
 obtain⟨ov,rfl,_,_⟩:=h5.one
 exact⟨iv,fv,wv,ov,F2,F3,F4,F5,rfl,by simp,h2,h3,h4,h5⟩
theorem gZ {w:World} {iv fv wv ov:Value} {Fi Ff Fw Fo:List Nat} (h1:CellF w (.sl it.length (it.flatMap Item.row)) iv Fi) (h2:CellF w (.sl fr.length (fr.flatMap Source.row)) fv Ff) (h3:CellF w (.sl wh.length (wh.flatMap Expr.row)) wv Fw) (h4:CellF w (.sl od.length (od.flatMap SortKey.row)) ov Fo) :
 ValsF w (Query.mk d it fr wh od li).row [.bool d,iv,fv,wv,ov,.int .i64 li] (Fi++(Ff++(Fw++(Fo++[])))):=by
 rw[aG]
 exact aX (F:=[]) (dg trivial) (aX h1 (aX h2 (aX h3 (aX h4 (aX (F:=[]) (R:=[]) (dg trivial) lF)))))
end
theorem Ee {w w':World} {F G:List Nat} (h:ChL (F++G) w w') (hb:∀x∈G,w.heap.size<=x):ChL F w w':=
 ⟨⟨fun x hx hn=>h.chg.blocks x hx fun e=>(List.mem_append.1 e).elim hn (fun e=>by have:=Go.Cv.vis_lt hx;have:=hb x e;omega),h.chg.seen,h.chg.os,h.chg.tape,h.chg.output⟩,h.size,fun x hx hn=>h.keep x hx fun e=>(List.mem_append.1 e).elim hn (fun e=>by have:=hb x e;omega)⟩
theorem Ef {w:World} {b:Nat} {t:TypeId} {e:Expr} {vv:List Value} {G:List Nat} (hv:ValsF w e.row vv G) (hb:w.heap[b]?=some (.cells vv.toArray t (0,0))):CellF w (.sl [e].length ([e].flatMap Expr.row)) (.slice (some ⟨b,0,none⟩) 1 1) (b::G):=by
 have e0:[e].flatMap Expr.row=e.row:=by simp
 rw[e0]
 exact⟨_,1,rfl,Nat.le_refl _,by simp [maxLen],(fun e=>by cases e),.inr ⟨(fun h=>by have:=congrArg List.length h;rw[aJ] at this;cases this),b,0,G,rfl,hv.row (cC hb (r:=[]) (by simp)),rfl⟩⟩
theorem hD {w:World} {d:D} {v:Value} {F:List Nat} (h:OwnT w [d] [v] F):CellF w d v F:=by
 obtain⟨u,e,h1,_⟩:=h.one
 injection e with e
 subst e
 exact h1
theorem oS {w:World} {n:Nat} {da db:List D} {d:D} {v:Value} {F:List Nat} (h:OwnT w [.sl n (da++(d::db))] [v] F) :
 ∃b cap cur t fz,v = .slice (some ⟨b,0,none⟩) n cap/\b∈F/\w.heap[b]?=some (.cells cur t fz)/\Lh cur.size fz/\da.length<cur.size /\
  ∀(wt w':World) (G Gy:List Nat) (y:Value) (d':D),ChL G w wt->(∀x∈F,x ∉ G)->CellF w' d' y Gy->w'.heap[b]?=some (.cells (cur.setIfInBounds da.length y) t fz)->ChL [b] wt w' ->
   ∃F',CellF w' (.sl n (da++(d'::db))) v F'/\∀x∈F',x∈F∨x∈Gy:=by
 have hne:∀e:D,da++(e::db)≠[]:=fun e h=>by simp at h
 obtain⟨b,cap,vs,F',cur,t,fz,sz,rfl,rfl,hin,hb,hcl,hbh,hlh,hnc,hcm,hsz,hcp⟩:=h.into (hne d)
 obtain⟨va,vr,Fa,Fr,rfl,rfl,ha,hr,_⟩:=hin.split
 obtain⟨vx,vb,Fx,Fb,rfl,rfl,hx,hvb,_⟩:=(show OwnT w ([d]++db) vr Fr from hr).split
 obtain⟨x,rfl,_,_⟩:=hx.one
 have hl:=ha.val.length
 have hat:∀(j:Nat) u,(va++([x]++vb))[j]?=some u->cur[j]?=some u:=fun j u hj=>by
  have:=hcl j u hj
  rw[cell_of_row w b (0+j) cur t fz hbh,Nat.zero_add] at this
  exact this
 have hlt:da.length<cur.size:=by
  have:=hat va.length x (by rw[List.getElem?_append_right (Nat.le_refl _),Nat.sub_self];rfl)
  rw[<-hl];exact (Array.getElem?_eq_some_iff.1 this).1
 refine⟨b,cap,cur,t,fz,rfl,by simp,hbh,hlh,hlt,fun wt w' G Gy y d' g hd hy hw g'=>⟨b::(Fa++(Gy++Fb)),?_,fun z hz=>by simp at hz ⊢;rcases hz with h|h|h|h<;>simp [h]⟩⟩
 simp only[List.mem_append,not_or] at hb
 have k:∀ {ds:List D} {vs:List Value} {F0:List Nat},OwnT w ds vs F0->(∀z∈F0,z∈b::(Fa++(Fx++Fb)))->b ∉ F0->ValsF w' ds vs F0:=fun ho hs hn=>((ho.keep g fun z hz=>hd z (hs z hz)).keep g' fun z hz e=>hn ((by simpa using e:z=b)▸hz)).val
 have hv:ValsF w' (da++(d'::db)) (va++(y::vb)) (Fa++(Gy++Fb)):=(k ha (by simp;intro z hz;simp [hz]) hb.1).join (aX hy (k hvb (by simp;intro z hz;simp [hz]) hb.2.2))
 refine⟨_,cap,rfl,hnc,hcm,(fun e=>by cases e),.inr ⟨hne d',b,0,_,rfl,hv.row fun j u hj=>?_,rfl⟩⟩
 rw[cell_of_row w' b (0+j) _ t fz hw,Nat.zero_add]
 rw[Array.getElem?_setIfInBounds]
 by_cases e:da.length=j
 ·subst e
  rw[<-hl,List.getElem?_append_right (Nat.le_refl _),Nat.sub_self] at hj
  rw[if_pos rfl,if_pos hlt]
  exact hj
 ·rw[if_neg e]
  refine hat j u ?_
  by_cases h1:j<va.length
  ·rw[List.getElem?_append_left h1] at hj ⊢;exact hj
  ·rw[List.getElem?_append_right aa] at hj ⊢
   obtain⟨i,hi⟩:∃i,j-va.length=i+1:=⟨j-va.length-1,aa⟩
   rw[hi] at hj ⊢
   exact hj
def H7 (F:List Nat) (w w10:World) (be bz:Nat):Prop:=∃(q':Query) (d':Bool) (iv' fv' wv' ov':Value) (li':Int) (G':List Nat) (cur:Array Value),w10.heap[be]?=some (.cells #[.bool d',iv',fv',wv',ov',.int .i64 li'] 29 (0,0))/\w10.heap[bz]?=some (.cells cur 29 (0,0))/\cur.size=6 /\
 ChL F w w10/\ValsF w10 q'.row [.bool d',iv',fv',wv',ov',.int .i64 li'] G'/\(∀x∈G',w.heap.size<=x/\x≠bz)/\QG q'
def IE (w:World) (v:Value) (w':World):Prop:=∃(q:Query) (vs:List Value) (G:List Nat),v = .agg vs.toArray/\ValsF w' q.row vs G/\(∀x∈G,w.heap.size<=x)/\Gr w w'/\QG q
set_option maxHeartbeats 4000000 in
theorem qB {w:World} {bs:List Int} {v:Value} {G:List Nat} (h:CellF w (.sl bs.length (bs.flatMap km)) v G) (hg:GlW w (fun _=>False)) :
 Go.Vc.callable Tryz.prog 36=true/\Calls Tryz.prog 36 #[v] w fun e w'=>∃r,e = .returned r/\IE w r w':=by
 refine⟨ae,?_⟩
 refine @sI _ w 36 Tryz.f36 _ [v] _ Tryz.func36 rfl (Nat.le_of_ble_eq_true rfl) ?_
 simp (maxSteps:=9999999) only[tt,Go.Cx.xc,Go.Cx.xl,Go.Cx.xOp,Go.Cx.xCall,Go.Cx.xStoreP,Go.Cv.cg0,Go.Cv.cOp,Go.Cv.cLoadA,Go.Cv.cStore,Go.Cv.cAlloc,Go.Cv.argsV,Go.Cv.regsV,Go.Vc.oneCell,seval,Tryz.f36]
 intro bz w1 hbz0 hw1
 obtain⟨hbz,hg1⟩:=gH hbz0 hw1
 obtain⟨n1,n2⟩:=BJ (h.grow hg1.grow) (Hf hg1 hg)
 refine⟨n1,_,n2,?_⟩
 rintro _ w2 ⟨b,rfl,g2,hb2,I,c,hc,hgI⟩
 letI:=I
 refine Stp.go ?_
 simp (maxSteps:=9999999) only[tt,Go.Cv.argsV,seval]
 have hbzb:bz≠b:=by
  have:=(Array.getElem?_eq_some_iff.1 hbz).1
  omega
 have hwb:w.heap.size<=b:=Nat.le_trans hg1.size hb2
 have hbG:b ∉ G:=fun hh=>by have:=Go.Cv.vis_lt (CellF.vis _ h b hh);omega
 have hv3:=(h.grow hg1.grow).grow g2.grow
 obtain⟨s1,s2⟩:=Cl.at (BF bs 4 ah) rfl (vs:=[v,.int .i64 4]) ⟨⟨G,hv3,fun _ _=>trivial,fun _ e=>by cases e⟩,⟨rfl,trivial⟩,trivial⟩ (hgI.mono (fun _ _ _=>rfl) fun _ h _=>h.elim)
 refine⟨s1,_,s2,?_⟩
 rintro v4 w4 ⟨r,⟨mx,rfl,hm0,hm1⟩,g4,hres⟩
 obtain rfl:=hres.val
 refine Stp.go ?_
 simp (maxSteps:=9999999) only[tt,Go.Cv.argsV,seval]
 have hc4:=hc.keep (g4.chl []) (by simp)
 have gl4:=dB (g4.chl []) hgI (by simp)
 obtain⟨cc1,cc2⟩:=dr ((bj c hc.1 mx).mono fun r os ⟨x,c',h1,h2,h3,h4⟩=>(⟨c',⟨x,h1,h3⟩,h2,h4⟩:th (fun r=>∃x:Int,r=vi x/\0<=x/\(0<mx->x<mx)) r os)) rfl hc4 (vs:=[.int .i64 mx]) (fun β ok h=>⟨⟨rfl,trivial⟩,trivial⟩) gl4
 refine⟨cc1,_,cc2,?_⟩
 rintro v5 w5 ⟨r,c5,⟨y,rfl,hy0,hy1⟩,hc5,g5,hres⟩
 obtain rfl:=hres.val
 obtain⟨k,rfl⟩:∃k:Nat,y=k:=⟨y.toNat,aa⟩
 have hk:k<=3:=by have:=hy1 aa;omega
 refine Stp.go ?_
 simp (maxSteps:=9999999) only[tt,Go.Cv.argsV,seval]
 obtain⟨cc1,cc2⟩:=dr ((ui k aa).2 c5 hc5.1) rfl hc5 (vs:=[.int .i64 k]) (fun β ok h=>⟨⟨rfl,trivial⟩,trivial⟩) (dB g5 gl4 (by simp))
 refine⟨cc1,_,cc2,?_⟩
 rintro v6 w6 ⟨r,c6,⟨q6,E1,E2,E3,E4,rfl,he6⟩,hc6,g6,hres⟩
 obtain⟨v6s,G6,rfl,hv6,hnew,hwl⟩:=hres.tdw (mt q6.row [E1,E2,E3,E4] (by obtain⟨d,it,fr,wh,od,li⟩:=q6;rw[aG];rfl))
 have hx6:OwnT w6 q6.row v6s G6:=⟨hv6,hnew.nodup,hnew.own,hwl⟩
 have hl6:v6s.length=6:=by rw[hv6.length,Query.row_len]
 refine Stp.go ?_
 simp (maxSteps:=9999999) only[tt,seval]
 intro be w7 hbe0 hw7
 obtain⟨hbe,g7⟩:=gH hbe0 hw7
 refine⟨by rw[List.size_toArray,hl6],_,_,_,hbe,Lh.zero _,by simp [hl6],fun u hu=>by rw[Go.Vc.oneCell_eq];exact hv6.oneCell u (by simpa using hu),_,rfl,Stp.go ?_⟩
 generalize hw8:World.setRow w7 be _=w8
 have hw8:World.setRow w7 be v6s.toArray=w8:=by rw[<-hw8];congr 1;simp [hl6]
 have hbe8:=setRow_heap w7 be _ v6s.toArray 29 _ hbe
 have g8:=fx hbe v6s.toArray
 rw[hw8] at hbe8 g8
 simp (maxSteps:=9999999) only[tt,Go.Cv.argsV,seval]
 have hwz:be=w6.heap.size:=by omega
 have g68:ChL [] w6 w8:=gY (b:=be) ((g7.chl [be]).trans g8) aa
 have hc8:=hc6.keep g68 (by simp)
 have hx8:=hx6.keep g68 (by simp)
 have gl6:=dB g6 (dB g5 gl4 (by simp)) (by simp)
 have gl8:=dB g68 gl6 (by simp)
 have hb5:b<w5.heap.size:=by obtain⟨_,_,_,h,_⟩:=hc5;exact (Array.getElem?_eq_some_iff.1 h).1
 have s56:=g6.size
 have s68:=g68.size
 have hbG6:b ∉ G6:=fun h=>by have:=hnew.new b h;omega
 have hbeb:be≠b:=by omega
 have hbeG6:be ∉ G6:=fun h=>by have:=Go.Cv.vis_lt (hx6.own.vis be h);omega
 have hbz5:=ChL.at g5 (ChL.at (g4.chl []) (ChL.at (g2.chl []) hbz (by simp)) (by simp)) (by simpa using hbzb)
 have hbz6:=ChL.at g6 hbz5 (by simpa using hbzb)
 have hbzlt:=(Array.getElem?_eq_some_iff.1 hbz6).1
 have hbzbe:bz≠be:=by omega
 have hbzG6:bz ∉ G6:=fun h=>by have:=hnew.new bz h;have:=(Array.getElem?_eq_some_iff.1 hbz5).1;omega
 obtain⟨cc1,cc2⟩:=dr ((bj c6 hc6.1 16).mono fun r os ⟨x,c',h1,h2,h3,h4⟩=>(⟨c',⟨x,h1,h3⟩,h2,h4⟩:th (fun r=>∃x:Int,r=vi x/\0<=x/\(0<(16:Int)->x<16)) r os)) rfl hc8 (vs:=[.int .i64 16]) (fun β ok h=>⟨⟨rfl,trivial⟩,trivial⟩) gl8
 refine⟨cc1,_,cc2,?_⟩
 rintro v9 w9 ⟨r,c9,⟨y,rfl,y0,y1⟩,hc9,g9,hres⟩
 obtain rfl:=hres.val
 refine Stp.go ?_
 simp (maxSteps:=9999999) only[tt,Go.Cv.argsV,seval]
 have hbe9:=ChL.at g9 hbe8 (by simpa using hbeb)
 have hx9:=hx8.keep g9 (fun x hx e=>hbG6 ((by simpa using e:x=b)▸hx))
 have hbz9:=ChL.at g9 (ChL.at g68 hbz6 (by simp)) (by simpa using hbzb)
 have gl9:=dB g9 gl8 (by simp)
 have hG6n:∀x∈G6,w.heap.size<=x:=fun x hx=>by
  have:=hnew.new x hx;have:=hg1.size;have:=g2.size;have:=g4.size;have:=g5.size;omega
 have gW:∀(F:List Nat) (u v:World),ChL F u v->(∀y∈F,y∈[bz,be,b]++G6)->ChL ([bz,be,b]++G6) u v:=fun _ _ _ h hs=>h.mono hs
 have gA:ChL ([bz,be,b]++G6) w w9:=((((((hg1.chl _).trans (g2.chl _)).trans (g4.chl _)).trans (gW _ _ _ g5 (by simp))).trans (gW _ _ _ g6 (by simp))).trans (gW _ _ _ g68 (by simp))).trans (gW _ _ _ g9 (by simp))
 have fin:∀(w':World),ChL ([bz,be,b]++G6) w w'->Gr w w':=fun w' g=>by
  have old:∀x,x<w.heap.size->x ∉ [bz,be,b]++G6:=fun x hx hm=>by
   have:w.heap.size<=bz:=by omega
   have:w.heap.size<=be:=by have:=hg1.size;have:=g2.size;have:=g4.size;have:=g5.size;omega
   simp only[lc,List.mem_cons] at hm
   rcases hm with rfl|rfl|rfl|hm
   ·omega
   ·omega
   ·omega
   ·have:=hG6n x hm;omega
  exact⟨g.size,fun x hx=>g.keep x hx (old x hx),g.chg.os,g.chg.tape,g.chg.output⟩
 obtain⟨d,it,fr,wh,od,li⟩:=q6
 obtain⟨hr6,hz6⟩:=JF hk he6
 have hhd:=he6.hd
 clear he6 hv6 hnew hwl
 obtain⟨iv,fv,wv,ov,Fi,Ff,Fw,Fo,rfl,rfl,hIt,hFr,hWh,hOd⟩:=Ed hx9
 have kp:∀wt w10:World,ChL [b] w9 wt->ChL [be] wt w10->OwnT w10 [.sl it.length (it.flatMap Item.row)] [iv] Fi/\OwnT w10 [.sl fr.length (fr.flatMap Source.row)] [fv] Ff/\OwnT w10 [.sl wh.length (wh.flatMap Expr.row)] [wv] Fw/\OwnT w10 [.sl od.length (od.flatMap SortKey.row)] [ov] Fo:=fun wt w10 g h=>by
  have k:∀ {ds:List D} {vs:List Value} {F:List Nat},OwnT w9 ds vs F->(∀y∈F,y∈Fi++(Ff++(Fw++Fo)))->OwnT w10 ds vs F:=fun ho hs=>(ho.keep g fun y hy e=>hbG6 ((by simpa using e:y=b)▸hs y hy)).keep h fun y hy e=>hbeG6 ((by simpa using e:y=be)▸hs y hy)
  exact⟨k hIt (by simp;intro y hy;simp [hy]),k hFr (by simp;intro y hy;simp [hy]),k hWh (by simp;intro y hy;simp [hy]),k hOd (by simp;intro y hy;simp [hy])⟩
 have zz:∀wt w10:World,ChL [b] w9 wt->ChL [be] wt w10->w10.heap[bz]?=w9.heap[bz]?/\ChL ([bz,be,b]++(Fi++(Ff++(Fw++Fo)))) w w10:=fun wt w10 g h=>
  ⟨by rw[hbz9];exact ChL.at h (ChL.at g hbz9 (by simpa using hbzb)) (by simpa using hbzbe),(gA.trans (gW _ _ _ g (by simp))).trans (gW _ _ _ h (by simp))⟩
 rw[hbz9] at zz
 refine ab (fun hy0=>?_) (fun hy0=>?_)
 focus
  refine⟨ah,ah,ae,rfl,fun u hu=>?_,fun bi wi hbi hwi=>?_⟩
  ·simp only[List.mem_cons,List.not_mem_nil,or_false] at hu
   rcases hu with rfl|rfl|rfl<;>rfl
  obtain⟨hbi',gi⟩:=gH hbi hwi
  simp (maxSteps:=9999999) only[tt,Go.Cv.argsV,seval]
  have hbib:bi≠b:=by
   obtain⟨_,_,_,h,_⟩:=hc9
   have:=(Array.getElem?_eq_some_iff.1 h).1
   omega
  obtain⟨cc1,cc2⟩:=dr (jy c9 hc9.1 [-2,-1,-9223372036854775808] ah) rfl (hc9.keep (gi.chl []) (by simp)) (vs:=[.slice (some ⟨bi,0,none⟩) 3 3]) (fun β ok h=>⟨⟨[bi],uj (us:=[.int .i64 (-2),.int .i64 (-1),.int .i64 (-9223372036854775808)]) (n:=3) hbi' (by simp) (by simp [maxLen]) (by simp [eh]),fun y hy=>h y (fun e=>hbib ((by simpa using hy:y=bi)▸e)),fun _ e=>by cases e⟩,trivial⟩) (dB (gi.chl []) gl9 (by simp))
  refine⟨cc1,_,cc2,?_⟩
  rintro v2 wt ⟨r,ct,⟨li2,hli2,rfl⟩,hct,gct,hres⟩
  obtain rfl:=hres.val
  refine Stp.go ?_
  simp (maxSteps:=9999999) only[tt,seval]
  have gX:ChL [b] w9 wt:=(gi.chl _).trans gct
  refine il (ChL.at gX hbe9 (by simpa using hbeb)) (Lh.zero _) (by simp) fun w10 hb10 g10 Da=>?_
  have hb10:w10.heap[be]?=some (.cells #[.bool d,iv,fv,wv,ov,.int .i64 li2] 29 (0,0)):=hb10
  simp (maxSteps:=9999999) only[tt,seval]
  obtain⟨k1,k2,k3,k4⟩:=kp wt w10 gX g10
  have T9:H7 ([bz,be,b]++(Fi++(Ff++(Fw++Fo)))) w w10 be bz:=⟨.mk d it fr wh od li2,d,iv,fv,wv,ov,li2,_,_,hb10,(zz wt w10 gX g10).1,rfl,(zz wt w10 gX g10).2,gZ (hD k1) (hD k2) (hD k3) (hD k4),fun x hx=>⟨hG6n x (by simpa using hx),fun e=>hbzG6 (e▸(by simpa using hx))⟩,IC hr6 hz6 (by simp only[List.mem_cons,List.not_mem_nil,or_false] at hli2;omega)⟩
 rotate_left 1
 refine ab (fun hy1=>?_) (fun hy1=>?_)
 focus
  have gX:ChL [b] w9 w9:=ChL.refl _ _
  refine il hbe9 (Lh.zero _) (by simp) fun w10 hb10 g10 Da=>?_
  have hb10:w10.heap[be]?=some (.cells #[.bool d,.slice none 0 0,fv,wv,ov,.int .i64 li] 29 (0,0)):=hb10
  simp (maxSteps:=9999999) only[tt,seval]
  obtain⟨k1,k2,k3,k4⟩:=kp w9 w10 gX g10
  have T9:H7 ([bz,be,b]++(Fi++(Ff++(Fw++Fo)))) w w10 be bz:=⟨.mk d [] fr wh od li,d,.slice none 0 0,fv,wv,ov,li,_,_,hb10,(zz w9 w10 gX g10).1,rfl,(zz w9 w10 gX g10).2,gZ (Fi:=[]) mn (hD k2) (hD k3) (hD k4),fun x hx=>⟨hG6n x (by simp at hx ⊢;rcases hx with h|h|h<;>simp [h]),fun e=>hbzG6 (e▸(by simp at hx ⊢;rcases hx with h|h|h<;>simp [h]))⟩,ID hr6 hz6⟩
 rotate_left 1
 refine ab (fun hy2=>?_) (fun hy2=>?_)
 focus
  obtain⟨⟨tb,al,on⟩,fr,rfl⟩:∃a r,fr=a::r:=by
   cases fr with
   |nil=>simp [hdB] at hhd
   |cons a r=>exact⟨a,r,rfl⟩
  have er:∀y,((Source.mk tb al y)::fr).flatMap Source.row=[str tb,str al]++(.sl y.length (y.flatMap Expr.row)::(fr.flatMap Source.row)):=fun y=>by simp [Source.row_mk]
  have hP:OwnT w9 [.sl (fr.length+1) ([str tb,str al]++(.sl on.length (on.flatMap Expr.row)::(fr.flatMap Source.row)))] [fv] Ff:=by
   have:=er on
   rw[<-this];exact hFr
  obtain⟨bk,kc,cur,t,fz,rfl,hbF,hbh,hlh,hlt,hput⟩:=oS hP
  have hbA:bk∈Fi++(Ff++(Fw++Fo)):=by simp [hbF]
  have hbkb:bk ∉ [b]:=by simpa using fun e:bk=b=>hbG6 (e▸hbA)
  have hbe':be ∉ [bk]:=by simpa using fun e:be=bk=>hbeG6 (e▸hbA)
  have hbz':bz ∉ [bk]:=by simpa using fun e:bz=bk=>hbzG6 (e▸hbA)
  have nF:bk ∉ Fi/\bk ∉ Fw/\bk ∉ Fo:=by
   obtain⟨_,n1,d1⟩:=List.nodup_append.1 hx9.nodup
   obtain⟨_,n2,d2⟩:=List.nodup_append.1 n1
   exact⟨fun h=>d1 bk h bk (by simp [hbF]) rfl,fun h=>d2 bk hbF bk (by simp [h]) rfl,fun h=>d2 bk hbF bk (by simp [h]) rfl⟩
  refine⟨ac,xDrawn.intro (.take 0 (.take 2 (.br 1 (.br 3 (.br 4 (.take 5 (.take 6 (.br 7 .done .nobr))) .nobr) .nobr) (.br 3 (.take 1 (.br 4 (.take 5 (.take 6 (.br 7 .done .nobr))) .nobr)) .nobr)))) ae fun wd pd gd=>?_⟩
  have hbed:=ChL.at (gd.chl []) hbe9 (by simp)
  have hcd:=hc9.keep (gd.chl []) (by simp)
  simp (maxSteps:=9999999) only[tt,Go.Cx.xOp,Go.Cx.xCall,Go.Cx.xStoreP,Go.Cx.xPlan,Go.Cv.cg0,Go.Cv.cOp,Go.Cv.cLoad,Go.Cv.cStore,Go.Cv.argsV,Go.Vc.oneCell,seval]
  refine ab ?_ ?_
  all_goals
   try refine⟨_,bC hbed (j:=2) rfl,?_⟩
   try simp (maxSteps:=9999999) only[seval]
   obtain⟨cc1,cc2⟩:=dr (qN 0 c9 hc9.1) rfl hcd (vs:=[]) (fun β ok h=>trivial) (dB (gd.chl []) gl9 (by simp))
   refine⟨cc1,_,cc2,?_⟩
   rintro v2 wt ⟨r,ct,⟨ec,Ek,Es,rfl,hec⟩,hct,gct,hres⟩
   obtain⟨vv,G0,rfl,hvv,hnew,hwl⟩:=hres.tdw (mt ec.row [Ek,Es] (by obtain⟨ek,eo,en,ev,eq,em,eks,ess⟩:=ec;rw[am];rfl))
   refine Stp.go ?_
   try simp (maxSteps:=9999999) only[tt,seval]
   try refine⟨_,bC (ChL.at gct hbed (by simpa using hbeb)) (j:=2) rfl,?_⟩
   simp (maxSteps:=9999999) only[tt,Nat.add_zero,seval,Go.Cx.xBuildS,Go.Cx.valsV,Go.Cx.cellsL,Go.Dv.ev,reduceIte]
   refine⟨ae,fun u hu=>?_,fun bi wi hbi hwi=>?_⟩
   ·rw[List.mem_singleton.1 hu];show vv.toArray.size=10;rw[List.size_toArray,hvv.length,aJ]
   obtain⟨hbi',gi⟩:=gH hbi hwi
   have gX:ChL [b] w9 wi:=((gd.chl _).trans gct).trans (gi.chl _)
   refine⟨aa,il (ChL.at gX hbh hbkb) hlh (by simpa using hlt) fun w10 hbk10 g10 Da=>?_⟩
   replace hbk10:w10.heap[bk]?=some (.cells (cur.setIfInBounds ([str tb,str al]:List D).length (.slice (some ⟨bi,0,none⟩) 1 1)) t fz):=by simpa using hbk10
   simp (maxSteps:=9999999) only[tt,seval]
   have l9:bk<w9.heap.size:=(Array.getElem?_eq_some_iff.1 hbh).1
   have l8:bz<w9.heap.size:=(Array.getElem?_eq_some_iff.1 hbz9).1
   have sA:=gA.size
   have sd:w9.heap.size<=wd.heap.size:=gd.size
   have st:wd.heap.size<=wt.heap.size:=gct.size
   have nG:∀x∈bi::G0,w9.heap.size<=x:=fun x hx=>(List.mem_cons.1 hx).elim aa fun h=>by have:=hnew.new x h;omega
   have hcell:=Ef (e:=ec) (t:=46) ((hvv.grow gi.grow).chg g10.chg fun x hx e=>by have:=nG x (by simp [hx]);have:x=bk:=(by simpa using e);omega) (ChL.at g10 hbi' (by simp;omega))
   have hb10:=ChL.at g10 (ChL.at gX hbe9 (by simpa using hbeb)) hbe'
   have hbz10:=ChL.at g10 (ChL.at gX hbz9 (by simpa using hbzb)) hbz'
   have jFi:=hD ((hIt.keep gX fun z hz e=>hbG6 ((by simpa using e:z=b)▸(by simp [hz]:z∈Fi++(Ff++(Fw++Fo))))).keep g10 fun z hz e=>nF.1 ((by simpa using e:z=bk)▸hz))
   have jFw:=hD ((hWh.keep gX fun z hz e=>hbG6 ((by simpa using e:z=b)▸(by simp [hz]:z∈Fi++(Ff++(Fw++Fo))))).keep g10 fun z hz e=>nF.2.1 ((by simpa using e:z=bk)▸hz))
   have jFo:=hD ((hOd.keep gX fun z hz e=>hbG6 ((by simpa using e:z=b)▸(by simp [hz]:z∈Fi++(Ff++(Fw++Fo))))).keep g10 fun z hz e=>nF.2.2 ((by simpa using e:z=bk)▸hz))
   obtain⟨F',hc',hF'⟩:=hput wi w10 [b] (bi::G0) _ (.sl [ec].length ([ec].flatMap Expr.row)) gX (fun x hx e=>hbG6 ((by simpa using e:x=b)▸(by simp [hx]:x∈Fi++(Ff++(Fw++Fo))))) hcell hbk10 g10
   rw[<-er [ec]] at hc'
   have T9:H7 ([bz,be,b]++(Fi++(Ff++(Fw++Fo)))) w w10 be bz:=⟨.mk d it (Source.mk tb al [ec]::fr) wh od li,_,_,_,_,_,_,_,_,hb10,hbz10,rfl,(gA.trans (gW _ _ _ gX (by simp))).trans (gW _ _ _ g10 (by simp [hbF])),gZ jFi hc' jFw jFo,fun x hx=>?_,JH hr6 hz6 hec.rg (by have:=hec.sz;simp only[dN] at this;omega)⟩
   rotate_left
   ·simp only[List.mem_append,List.append_nil] at hx
    have hA:x∈Fi++(Ff++(Fw++Fo))∨x∈((bi::G0):List Nat):=by
     rcases hx with h|h|h|h
     ·exact .inl (by simp [h])
     ·exact (hF' x h).imp (fun h=>by simp [h]) id
     ·exact .inl (by simp [h])
     ·exact .inl (by simp [h])
    rcases hA with h|h
    ·exact⟨hG6n x h,fun e=>hbzG6 (e▸h)⟩
    ·exact⟨by have:=nG x h;omega,fun e=>by have:=nG x h;omega⟩
 rotate_left 2
 refine ab (fun hy3=>?_) (fun hy3=>?_)
 focus
  obtain⟨⟨st,qu,ex,al⟩,it,rfl⟩:∃a r,it=a::r:=by
   cases it with
   |nil=>simp [hdB] at hhd
   |cons a r=>exact⟨a,r,rfl⟩
  have er:∀y,((Item.mk st y ex al)::it).flatMap Item.row=[bool st]++(str y::(ex.row++(str al::it.flatMap Item.row))):=fun y=>by simp [Item.row_mk]
  have hP:OwnT w9 [.sl (it.length+1) ([bool st]++(str qu::(ex.row++(str al::it.flatMap Item.row))))] [iv] Fi:=by
   have:=er qu
   rw[<-this];exact hIt
  obtain⟨bk,kc,cur,t,fz,rfl,hbF,hbh,hlh,hlt,hput⟩:=oS hP
  have hbA:bk∈Fi++(Ff++(Fw++Fo)):=by simp [hbF]
  have hbkb:bk ∉ [b]:=by simpa using fun e:bk=b=>hbG6 (e▸hbA)
  have hbe':be ∉ [bk]:=by simpa using fun e:be=bk=>hbeG6 (e▸hbA)
  have hbz':bz ∉ [bk]:=by simpa using fun e:bz=bk=>hbzG6 (e▸hbA)
  have nF:bk ∉ Ff/\bk ∉ Fw/\bk ∉ Fo:=by
   obtain⟨_,n1,d1⟩:=List.nodup_append.1 hx9.nodup
   obtain⟨_,n2,d2⟩:=List.nodup_append.1 n1
   exact⟨fun h=>d1 bk hbF bk (by simp [h]) rfl,fun h=>d1 bk hbF bk (by simp [h]) rfl,fun h=>d1 bk hbF bk (by simp [h]) rfl⟩
  refine⟨ac,xDrawn.intro (.take 0 (.take 2 (.br 1 (.br 3 (.take 4 (.take 5 (.br 6 .done .nobr))) .nobr) (.br 3 (.take 1 (.take 4 (.take 5 (.br 6 .done .nobr)))) .nobr)))) ae fun wd pd gd=>?_⟩
  have hbed:=ChL.at (gd.chl []) hbe9 (by simp)
  have hcd:=hc9.keep (gd.chl []) (by simp)
  simp (maxSteps:=9999999) only[tt,Go.Cx.xOp,Go.Cx.xCall,Go.Cx.xStoreP,Go.Cx.xPlan,Go.Cv.cg0,Go.Cv.cOp,Go.Cv.cLoad,Go.Cv.cStore,Go.Cv.argsV,Go.Vc.oneCell,seval]
  refine ab ?_ ?_
  all_goals
   try refine⟨_,bC hbed (j:=1) rfl,?_⟩
   try simp (maxSteps:=9999999) only[seval]
   obtain⟨cc1,cc2⟩:=dr (oQ c9 hc9.1) rfl hcd (vs:=[]) (fun β ok h=>trivial) (dB (gd.chl []) gl9 (by simp))
   refine⟨cc1,_,cc2,?_⟩
   rintro v2 wt ⟨r,ct,⟨s2,rfl,hs2⟩,hct,gct,hres⟩
   obtain rfl:=hres.val
   have os2:eh (.string s2):=Nat.le_trans hs2 (by simp [maxLen])
   have gX:ChL [b] w9 wt:=(gd.chl _).trans gct
   refine Stp.go ?_
   simp (maxSteps:=9999999) only[tt,Nat.add_zero,seval]
   try refine⟨_,bC (ChL.at gX hbe9 (by simpa using hbeb)) (j:=1) rfl,?_⟩
   try simp (maxSteps:=9999999) only[tt,Nat.add_zero,seval]
   refine⟨aa,il (ChL.at gX hbh hbkb) hlh (by simpa [aJ] using hlt) fun w10 hbk10 g10 Da=>?_⟩
   replace hbk10:w10.heap[bk]?=some (.cells (cur.setIfInBounds ([bool st]).length (.string s2)) t fz):=by simpa [aJ] using hbk10
   simp (maxSteps:=9999999) only[tt,seval]
   have hb10:=ChL.at g10 (ChL.at gX hbe9 (by simpa using hbeb)) hbe'
   have hbz10:=ChL.at g10 (ChL.at gX hbz9 (by simpa using hbzb)) hbz'
   have jFf:=hD ((hFr.keep gX fun z hz e=>hbG6 ((by simpa using e:z=b)▸(by simp [hz]:z∈Fi++(Ff++(Fw++Fo))))).keep g10 fun z hz e=>nF.1 ((by simpa using e:z=bk)▸hz))
   have jFw:=hD ((hWh.keep gX fun z hz e=>hbG6 ((by simpa using e:z=b)▸(by simp [hz]:z∈Fi++(Ff++(Fw++Fo))))).keep g10 fun z hz e=>nF.2.1 ((by simpa using e:z=bk)▸hz))
   have jFo:=hD ((hOd.keep gX fun z hz e=>hbG6 ((by simpa using e:z=b)▸(by simp [hz]:z∈Fi++(Ff++(Fw++Fo))))).keep g10 fun z hz e=>nF.2.2 ((by simpa using e:z=bk)▸hz))
   obtain⟨F',hc',hF'⟩:=hput wt w10 [b] [] _ (str s2) gX (fun x hx e=>hbG6 ((by simpa using e:x=b)▸(by simp [hx]:x∈Fi++(Ff++(Fw++Fo))))) (dg os2) hbk10 g10
   rw[<-er s2] at hc'
   have T9:H7 ([bz,be,b]++(Fi++(Ff++(Fw++Fo)))) w w10 be bz:=⟨.mk d (Item.mk st s2 ex al::it) fr wh od li,_,_,_,_,_,_,_,_,hb10,hbz10,rfl,(gA.trans (gW _ _ _ gX (by simp))).trans (gW _ _ _ g10 (by simp [hbF])),gZ hc' jFf jFw jFo,fun x hx=>?_,H6 hr6 hz6 aa aa⟩
   rotate_left
   ·simp only[List.mem_append,List.append_nil] at hx
    have hA:x∈Fi++(Ff++(Fw++Fo))∨x∈([]:List Nat):=by
     rcases hx with h|h|h|h
     ·exact (hF' x h).imp (fun h=>by simp [h]) id
     ·exact .inl (by simp [h])
     ·exact .inl (by simp [h])
     ·exact .inl (by simp [h])
    rcases hA with h|h
    ·exact⟨hG6n x h,fun e=>hbzG6 (e▸h)⟩
    ·cases h
 rotate_left 2
 refine ab (fun hy4=>?_) (fun hy4=>?_)
 focus
  obtain⟨⟨tb,al,on⟩,fr,rfl⟩:∃a r,fr=a::r:=by
   cases fr with
   |nil=>simp [hdB] at hhd
   |cons a r=>exact⟨a,r,rfl⟩
  have er:∀y,((Source.mk y al on)::fr).flatMap Source.row=([]:List D)++(str y::(str al :: .sl on.length (on.flatMap Expr.row)::fr.flatMap Source.row)):=fun y=>by simp [Source.row_mk]
  have hP:OwnT w9 [.sl (fr.length+1) (([]:List D)++(str tb::(str al :: .sl on.length (on.flatMap Expr.row)::fr.flatMap Source.row)))] [fv] Ff:=by
   have:=er tb
   rw[<-this];exact hFr
  obtain⟨bk,kc,cur,t,fz,rfl,hbF,hbh,hlh,hlt,hput⟩:=oS hP
  have hbA:bk∈Fi++(Ff++(Fw++Fo)):=by simp [hbF]
  have hbkb:bk ∉ [b]:=by simpa using fun e:bk=b=>hbG6 (e▸hbA)
  have hbe':be ∉ [bk]:=by simpa using fun e:be=bk=>hbeG6 (e▸hbA)
  have hbz':bz ∉ [bk]:=by simpa using fun e:bz=bk=>hbzG6 (e▸hbA)
  have nF:bk ∉ Fi/\bk ∉ Fw/\bk ∉ Fo:=by
   obtain⟨_,n1,d1⟩:=List.nodup_append.1 hx9.nodup
   obtain⟨_,n2,d2⟩:=List.nodup_append.1 n1
   exact⟨fun h=>d1 bk h bk (by simp [hbF]) rfl,fun h=>d2 bk hbF bk (by simp [h]) rfl,fun h=>d2 bk hbF bk (by simp [h]) rfl⟩
  refine⟨ac,xDrawn.intro (.take 0 (.take 2 (.br 1 (.br 3 (.take 4 (.take 5 (.br 6 .done .nobr))) .nobr) (.br 3 (.take 1 (.take 4 (.take 5 (.br 6 .done .nobr)))) .nobr)))) ae fun wd pd gd=>?_⟩
  have hbed:=ChL.at (gd.chl []) hbe9 (by simp)
  have hcd:=hc9.keep (gd.chl []) (by simp)
  simp (maxSteps:=9999999) only[tt,Go.Cx.xOp,Go.Cx.xCall,Go.Cx.xStoreP,Go.Cx.xPlan,Go.Cv.cg0,Go.Cv.cOp,Go.Cv.cLoad,Go.Cv.cStore,Go.Cv.argsV,Go.Vc.oneCell,Nat.add_zero,seval]
  refine ab ?_ ?_
  all_goals
   try refine⟨_,bC hbed (j:=2) rfl,?_⟩
   try simp (maxSteps:=9999999) only[seval]
   obtain⟨cc1,cc2⟩:=dr (oQ c9 hc9.1) rfl hcd (vs:=[]) (fun β ok h=>trivial) (dB (gd.chl []) gl9 (by simp))
   refine⟨cc1,_,cc2,?_⟩
   rintro v2 wt ⟨r,ct,⟨s2,rfl,hs2⟩,hct,gct,hres⟩
   obtain rfl:=hres.val
   have os2:eh (.string s2):=Nat.le_trans hs2 (by simp [maxLen])
   have gX:ChL [b] w9 wt:=(gd.chl _).trans gct
   refine Stp.go ?_
   simp (maxSteps:=9999999) only[tt,Nat.add_zero,seval,imp_self]
   try refine⟨_,bC (ChL.at gX hbe9 (by simpa using hbeb)) (j:=2) rfl,?_⟩
   try simp (maxSteps:=9999999) only[tt,Nat.add_zero,seval]
   refine⟨aa,il (ChL.at gX hbh hbkb) hlh (by simpa [aJ] using hlt) fun w10 hbk10 g10 Da=>?_⟩
   replace hbk10:w10.heap[bk]?=some (.cells (cur.setIfInBounds (([]:List D)).length (.string s2)) t fz):=by simpa [aJ] using hbk10
   simp (maxSteps:=9999999) only[tt,seval]
   have hb10:=ChL.at g10 (ChL.at gX hbe9 (by simpa using hbeb)) hbe'
   have hbz10:=ChL.at g10 (ChL.at gX hbz9 (by simpa using hbzb)) hbz'
   have jFi:=hD ((hIt.keep gX fun z hz e=>hbG6 ((by simpa using e:z=b)▸(by simp [hz]:z∈Fi++(Ff++(Fw++Fo))))).keep g10 fun z hz e=>nF.1 ((by simpa using e:z=bk)▸hz))
   have jFw:=hD ((hWh.keep gX fun z hz e=>hbG6 ((by simpa using e:z=b)▸(by simp [hz]:z∈Fi++(Ff++(Fw++Fo))))).keep g10 fun z hz e=>nF.2.1 ((by simpa using e:z=bk)▸hz))
   have jFo:=hD ((hOd.keep gX fun z hz e=>hbG6 ((by simpa using e:z=b)▸(by simp [hz]:z∈Fi++(Ff++(Fw++Fo))))).keep g10 fun z hz e=>nF.2.2 ((by simpa using e:z=bk)▸hz))
   obtain⟨F',hc',hF'⟩:=hput wt w10 [b] [] _ (str s2) gX (fun x hx e=>hbG6 ((by simpa using e:x=b)▸(by simp [hx]:x∈Fi++(Ff++(Fw++Fo))))) (dg os2) hbk10 g10
   rw[<-er s2] at hc'
   have T9:H7 ([bz,be,b]++(Fi++(Ff++(Fw++Fo)))) w w10 be bz:=⟨.mk d it (Source.mk s2 al on::fr) wh od li,_,_,_,_,_,_,_,_,hb10,hbz10,rfl,(gA.trans (gW _ _ _ gX (by simp))).trans (gW _ _ _ g10 (by simp [hbF])),gZ jFi hc' jFw jFo,fun x hx=>?_,JG hr6 hz6 hs2⟩
   rotate_left
   ·simp only[List.mem_append,List.append_nil] at hx
    have hA:x∈Fi++(Ff++(Fw++Fo))∨x∈([]:List Nat):=by
     rcases hx with h|h|h|h
     ·exact .inl (by simp [h])
     ·exact (hF' x h).imp (fun h=>by simp [h]) id
     ·exact .inl (by simp [h])
     ·exact .inl (by simp [h])
    rcases hA with h|h
    ·exact⟨hG6n x h,fun e=>hbzG6 (e▸h)⟩
    ·cases h
 rotate_left 2
 refine ab (fun hy5=>?_) (fun hy5=>?_)
 focus
  obtain⟨cc1,cc2⟩:=dr ((ui 2 aa).1 c9 hc9.1) rfl hc9 (vs:=[.int .i64 2]) (fun β ok h=>⟨⟨rfl,trivial⟩,trivial⟩) gl9
  refine⟨cc1,_,cc2,?_⟩
  rintro v2 wa ⟨r,ca,⟨e5,Ek,Es,rfl,he5⟩,hca,ga,hres⟩
  obtain⟨v5s,G5,rfl,hv5,hn5,hw5⟩:=hres.tdw (mt e5.row [Ek,Es] (by obtain⟨ek,eo,en,ev,eq,em,eks,ess⟩:=e5;rw[am];rfl))
  have hx5:OwnT wa e5.row v5s G5:=⟨hv5,hn5.nodup,hn5.own,hw5⟩
  refine Stp.go ?_
  simp (maxSteps:=9999999) only[tt,Go.Cv.argsV,seval]
  have hb9:b<w9.heap.size:=by obtain⟨_,_,_,h,_⟩:=hc9;exact (Array.getElem?_eq_some_iff.1 h).1
  have l8:bz<w9.heap.size:=(Array.getElem?_eq_some_iff.1 hbz9).1
  have l9:be<w9.heap.size:=(Array.getElem?_eq_some_iff.1 hbe9).1
  have hz5:szExpr e5<=26000:=by have:=he5.sz;rw[Lv] at this;omega
  have sa:=ga.size
  obtain⟨n1,n2⟩:=yX _ e5 (Nat.lt_succ_self _) aa wa b ca v5s G5 hx5 (fun h=>by have:=hn5.new b h;omega) hca (gl9.mono (fun x hx hn=>ga.keep x hx (by simpa using hn)) fun x hx hlt=>hx.elim id fun h=>by have:=hn5.new x h;omega)
  refine⟨n1,_,n2,?_⟩
  rintro v7 wb ⟨e7,v7s,G7,cb,rfl,hT7,hF7,gb,hcb,hbn⟩
  refine Stp.go ?_
  simp (maxSteps:=9999999) only[tt,seval,Go.Cx.xBuildS,Go.Cx.valsV,Go.Cx.cellsL,Go.Dv.ev,reduceIte]
  refine⟨ae,fun u hu=>?_,fun bi wi hbi hwi=>?_⟩
  ·rw[List.mem_singleton.1 hu];show v7s.toArray.size=10;rw[List.size_toArray,hT7.val.length,aJ]
  obtain⟨hbi',gi⟩:=gH hbi hwi
  have gX:ChL [b] w9 wi:=Ee (G:=G5) (((ga.mono (by simp)).trans (gb.mono (by simp))).trans (gi.chl _)) fun x hx=>hn5.new x hx
  refine il (ChL.at gX hbe9 (by simpa using hbeb)) (Lh.zero _) (by simp) fun w10 hb10 g10 Da=>?_
  have hb10:w10.heap[be]?=some (.cells #[.bool d,iv,fv,.slice (some ⟨bi,0,none⟩) 1 1,ov,.int .i64 li] 29 (0,0)):=hb10
  simp (maxSteps:=9999999) only[tt,seval]
  obtain⟨k1,k2,k3,k4⟩:=kp wi w10 gX g10
  have sb:=gb.size
  have nG:∀x∈bi::G7,w9.heap.size<=x:=fun x hx=>(List.mem_cons.1 hx).elim aa fun h=>(hF7 x h).elim (fun h=>by have:=hn5.new x h;omega) aa
  have hcell:=Ef (e:=e7) (t:=46) ((hT7.val.grow gi.grow).chg g10.chg fun x hx e=>by have:=nG x (by simp [hx]);have:x=be:=(by simpa using e);omega) (ChL.at g10 hbi' (by simp;omega))
  have sA:=gA.size
  have T9:H7 ([bz,be,b]++(Fi++(Ff++(Fw++Fo)))) w w10 be bz:=⟨.mk d it fr [e7] od li,d,iv,fv,.slice (some ⟨bi,0,none⟩) 1 1,ov,li,_,_,hb10,(zz wi w10 gX g10).1,rfl,(zz wi w10 gX g10).2,gZ (hD k1) (hD k2) hcell (hD k4),fun x hx=>?_,JI hr6 hz6 (hbn.2 he5.rg) (by have:=hbn.1;omega)⟩
  rotate_left
  ·have hA:x∈Fi++(Ff++(Fw++Fo))∨x∈bi::G7:=by
    simp only[List.mem_append,List.append_nil] at hx ⊢
    rcases hx with h|h|h|h<;>simp [h]
   rcases hA with h|h
   ·exact⟨hG6n x h,fun e=>hbzG6 (e▸h)⟩
   ·exact⟨by have:=nG x h;omega,fun e=>by have:=nG x h;omega⟩
 rotate_left 1
 refine ab (fun hy6=>?_) (fun hy6=>?_)
 focus
  obtain⟨⟨st,qu,ex,al⟩,it,rfl⟩:∃a r,it=a::r:=by
   cases it with
   |nil=>simp [hdB] at hhd
   |cons a r=>exact⟨a,r,rfl⟩
  have er:∀y,((Item.mk st qu ex y)::it).flatMap Item.row=(bool st::str qu::ex.row)++(str y::(it.flatMap Item.row)):=fun y=>by simp [Item.row_mk]
  have hP:OwnT w9 [.sl (it.length+1) ((bool st::str qu::ex.row)++(str al::(it.flatMap Item.row)))] [iv] Fi:=by
   have:=er al
   rw[<-this];exact hIt
  obtain⟨bk,kc,cur,t,fz,rfl,hbF,hbh,hlh,hlt,hput⟩:=oS hP
  have hbA:bk∈Fi++(Ff++(Fw++Fo)):=by simp [hbF]
  have hbkb:bk ∉ [b]:=by simpa using fun e:bk=b=>hbG6 (e▸hbA)
  have hbe':be ∉ [bk]:=by simpa using fun e:be=bk=>hbeG6 (e▸hbA)
  have hbz':bz ∉ [bk]:=by simpa using fun e:bz=bk=>hbzG6 (e▸hbA)
  have nF:bk ∉ Ff/\bk ∉ Fw/\bk ∉ Fo:=by
   obtain⟨_,n1,d1⟩:=List.nodup_append.1 hx9.nodup
   obtain⟨_,n2,d2⟩:=List.nodup_append.1 n1
   exact⟨fun h=>d1 bk hbF bk (by simp [h]) rfl,fun h=>d1 bk hbF bk (by simp [h]) rfl,fun h=>d1 bk hbF bk (by simp [h]) rfl⟩
  refine⟨ac,xDrawn.intro (.take 0 (.take 2 (.br 1 (.br 3 (.take 4 (.take 5 (.br 6 .done .nobr))) .nobr) (.br 3 (.take 1 (.take 4 (.take 5 (.br 6 .done .nobr)))) .nobr)))) ae fun wd pd gd=>?_⟩
  have hbed:=ChL.at (gd.chl []) hbe9 (by simp)
  have hcd:=hc9.keep (gd.chl []) (by simp)
  simp (maxSteps:=9999999) only[tt,Go.Cx.xOp,Go.Cx.xCall,Go.Cx.xStoreP,Go.Cx.xPlan,Go.Cv.cg0,Go.Cv.cOp,Go.Cv.cLoad,Go.Cv.cStore,Go.Cv.argsV,Go.Vc.oneCell,seval]
  refine ab ?_ ?_
  all_goals
   try refine⟨_,bC hbed (j:=1) rfl,?_⟩
   try simp (maxSteps:=9999999) only[seval]
   obtain⟨cc1,cc2⟩:=dr (oQ c9 hc9.1) rfl hcd (vs:=[]) (fun β ok h=>trivial) (dB (gd.chl []) gl9 (by simp))
   refine⟨cc1,_,cc2,?_⟩
   rintro v2 wt ⟨r,ct,⟨s2,rfl,hs2⟩,hct,gct,hres⟩
   obtain rfl:=hres.val
   have os2:eh (.string s2):=Nat.le_trans hs2 (by simp [maxLen])
   have gX:ChL [b] w9 wt:=(gd.chl _).trans gct
   refine Stp.go ?_
   simp (maxSteps:=9999999) only[tt,Nat.add_zero,seval]
   try refine⟨_,bC (ChL.at gX hbe9 (by simpa using hbeb)) (j:=1) rfl,?_⟩
   try simp (maxSteps:=9999999) only[tt,Nat.add_zero,seval]
   refine⟨aa,il (ChL.at gX hbh hbkb) hlh (by simpa [aJ] using hlt) fun w10 hbk10 g10 Da=>?_⟩
   replace hbk10:w10.heap[bk]?=some (.cells (cur.setIfInBounds ((bool st::str qu::ex.row)).length (.string s2)) t fz):=by simpa [aJ] using hbk10
   simp (maxSteps:=9999999) only[tt,seval]
   have hb10:=ChL.at g10 (ChL.at gX hbe9 (by simpa using hbeb)) hbe'
   have hbz10:=ChL.at g10 (ChL.at gX hbz9 (by simpa using hbzb)) hbz'
   have jFf:=hD ((hFr.keep gX fun z hz e=>hbG6 ((by simpa using e:z=b)▸(by simp [hz]:z∈Fi++(Ff++(Fw++Fo))))).keep g10 fun z hz e=>nF.1 ((by simpa using e:z=bk)▸hz))
   have jFw:=hD ((hWh.keep gX fun z hz e=>hbG6 ((by simpa using e:z=b)▸(by simp [hz]:z∈Fi++(Ff++(Fw++Fo))))).keep g10 fun z hz e=>nF.2.1 ((by simpa using e:z=bk)▸hz))
   have jFo:=hD ((hOd.keep gX fun z hz e=>hbG6 ((by simpa using e:z=b)▸(by simp [hz]:z∈Fi++(Ff++(Fw++Fo))))).keep g10 fun z hz e=>nF.2.2 ((by simpa using e:z=bk)▸hz))
   obtain⟨F',hc',hF'⟩:=hput wt w10 [b] [] _ (str s2) gX (fun x hx e=>hbG6 ((by simpa using e:x=b)▸(by simp [hx]:x∈Fi++(Ff++(Fw++Fo))))) (dg os2) hbk10 g10
   rw[<-er s2] at hc'
   have T9:H7 ([bz,be,b]++(Fi++(Ff++(Fw++Fo)))) w w10 be bz:=⟨.mk d (Item.mk st qu ex s2::it) fr wh od li,_,_,_,_,_,_,_,_,hb10,hbz10,rfl,(gA.trans (gW _ _ _ gX (by simp))).trans (gW _ _ _ g10 (by simp [hbF])),gZ hc' jFf jFw jFo,fun x hx=>?_,H6 hr6 hz6 aa aa⟩
   rotate_left
   ·simp only[List.mem_append,List.append_nil] at hx
    have hA:x∈Fi++(Ff++(Fw++Fo))∨x∈([]:List Nat):=by
     rcases hx with h|h|h|h
     ·exact (hF' x h).imp (fun h=>by simp [h]) id
     ·exact .inl (by simp [h])
     ·exact .inl (by simp [h])
     ·exact .inl (by simp [h])
    rcases hA with h|h
    ·exact⟨hG6n x h,fun e=>hbzG6 (e▸h)⟩
    ·cases h
 rotate_left 2
 have T9:H7 ([bz,be,b]++(Fi++(Ff++(Fw++Fo)))) w w9 be bz:=⟨.mk d it fr wh od li,d,iv,fv,wv,ov,li,_,_,hbe9,hbz9,rfl,gA,gZ (hD hIt) (hD hFr) (hD hWh) (hD hOd),fun x hx=>⟨hG6n x (by simpa using hx),fun e=>hbzG6 (e▸(by simpa using hx))⟩,hr6,aa⟩
 generalize w9=w10 at T9 ⊢
 all_goals
  obtain⟨q',d',iv',fv',wv',ov',li',G',cur,hb10,hbz10,hcs,gX,hv10,hn10,hQ⟩:=T9
  refine⟨[.bool d',iv',fv',wv',ov',.int .i64 li'],rfl,cC hb10 (r:=[]) (by simp),rfl,_,_,_,hbz10,Lh.zero _,by simp [hcs],fun u hu=>by rw[Go.Vc.oneCell_eq];exact hv10.oneCell u hu,_,rfl,Stp.go ?_⟩
  generalize hwz:World.setRow w10 bz _=wz
  have hwz:World.setRow w10 bz ([.bool d',iv',fv',wv',ov',.int .i64 li']:List Value).toArray=wz:=by rw[<-hwz];congr 1;simp [hcs]
  have hbzz:=setRow_heap w10 bz _ ([.bool d',iv',fv',wv',ov',.int .i64 li']:List Value).toArray 29 _ hbz10
  have gz:=fx hbz10 ([.bool d',iv',fv',wv',ov',.int .i64 li']:List Value).toArray
  rw[hwz] at hbzz gz
  exact⟨[.bool d',iv',fv',wv',ov',.int .i64 li'],rfl,cC hbzz (r:=[]) (by simp),q',[.bool d',iv',fv',wv',ov',.int .i64 li'],G',rfl,hv10.chg gz.chg (fun y hy e=>(hn10 y hy).2 (by simpa using e)),fun x hx=>(hn10 x hx).1,fin _ (gX.trans (gz.mono (by simp))),hQ⟩
end Go.Proofs.YtdmomaomffhidaaGreatDoor
