/-
  Draws that write in place.
  Conditions: none.
-/
import Derived.Test.YtoegnikpokgbfaaGreatDoorMIV1
set_option linter.unusedVariables false
set_option linter.unusedSimpArgs false
set_option linter.unusedSectionVars false
set_option linter.unnecessarySimpa false
set_option maxRecDepth 8000
namespace Go.Proofs.YtoegnikpokgbfaaGreatDoor
open Go Go.Dv
open Go.Vc (D cF cG cv aX)
open Go.Vc (D cF cG cv aX d6 CellF ValsF Cells)
open Go.Cv Go.Cx
section
variable [CodeOut]
def CurAt (w:World) (b:Nat) (c:Cur):Prop:=0<=c.i/\∃ty lh,w.heap[b]?=some (.cells #[Out.code,.int .i64 c.i,.int .i64 c.h] ty lh)/\Lh 3 lh/\d6 Out.code
theorem CurAt.keep {w w':World} {b:Nat} {c:Cur} {F:List Nat} (h:CurAt w b c) (g:ChL F w w') (hb:b ∉ F):CurAt w' b c:=by
 obtain⟨h0,ty,lh,h1,h2,h3⟩:=h
 exact⟨h0,ty,lh,ChL.at g h1 hb,h2,h3⟩
theorem dM {g:FuncId} {args:List S} {c:Cur} {Pr:S->Prop} (h:Cl Tryz.prog g (.c (.p 9000 0)::args) [c.cs] (pW Pr)) (hp:bg (args.flatMap aO)=true) {w:World} {b:Nat} (hc:CurAt w b c) {vs:List Value}
 (hv:∀(β:Nat->Option Nat) (ok:Nat->Prop),(∀x,x≠b->ok x)->RelA Tryz.prog w β ok args vs) (hg:GlW w (fun x=>x=b)) :
 Go.Vc.callable Tryz.prog g=true/\Calls Tryz.prog g (.pointer (some ⟨b,0,none⟩)::vs).toArray w fun e w'=>∃v,e = .returned v/\∃r c',Pr r/\CurAt w' b c'/\ChL [b] w w'/\Go.Cv.Res Tryz.prog w w' r v:=by
 obtain⟨h0,ty,lh,h1,h2,h3⟩:=hc
 obtain⟨k1,k2⟩:=Cl.at1 (us:=[Out.code,.int .i64 c.i,.int .i64 c.h]) h (fun r os ⟨c',_,e,_⟩=>⟨[Out.code,.int .i64 c'.i,.int .i64 c'.h],e⟩) hp (ty:=ty) (lh:=lh) h1 (by simpa using h2) (fun u hu=>by
  simp only[List.mem_cons,List.not_mem_nil,or_false] at hu
  rcases hu with rfl|rfl|rfl
  ·exact h3
  ·trivial
  ·trivial) hv hg
 refine⟨k1,k2.mono ?_⟩
 rintro e w' ⟨v,rfl,r,us',⟨c',hr,e,hi⟩,g,⟨ty',lh',hb,hl,hok⟩,hres⟩
 have e:us'=[Out.code,.int .i64 c'.i,.int .i64 c'.h]:=by
  have:us'.map C.v=[Out.code,.int .i64 c'.i,.int .i64 c'.h].map C.v:=by injection e with e
  have unm:∀l:List Value,(l.map C.v).map (fun c:C=>match c with | .v u=>u|_=>.nilFunc)=l:=fun l=>by
   induction l with
   |nil=>rfl
   |cons a r ih=>rw[List.map_cons,List.map_cons,ih]
  have:=congrArg (List.map (fun c:C=>match c with | .v u=>u|_=>.nilFunc)) this
  rwa[unm,unm] at this
 subst e
 exact⟨v,rfl,r,c',hr,⟨hi,ty',lh',hb,by simpa using hl,h3⟩,g,hres⟩
theorem nq {w:World}:∀ {us vs:List Value} {F:List Nat},ValsF w (us.map D.lit) vs F->vs=us/\F=[]/\∀u∈us,d6 u
 | [],[],_,h=>⟨rfl,h,fun u hu=>by cases hu⟩
 | [],_::_,_,h=>h.elim
 |_::_,[],_,h=>h.elim
 |u::us,v::vs,F,⟨F1,F2,⟨h1,h2,h3⟩,h4,h5⟩=>by
  obtain⟨h6,h7,h8⟩:=nq h4
  subst h1 h2 h6 h7
  exact⟨rfl,h5,fun x hx=>(List.mem_cons.1 hx).elim (fun e=>e▸h3) (h8 x)⟩
def Bn (e e':Expr):Prop:=szExpr e'<=szExpr e+2000/\(Rg e->Rg e')
def H8 (e:Expr) (w:World) (b:Nat) (F:List Nat) (v:Value) (w':World):Prop:=
 ∃(e':Expr) (vs':List Value) (F':List Nat) (c':Cur),v = .agg vs'.toArray/\OwnT w' e'.row vs' F'/\(∀x∈F',x∈F∨w.heap.size<=x)/\ChL (b::F) w w'/\CurAt w' b c'/\Bn e e'
def G8 (k o:Int) (n:Bool) (x:Val) (q m:ByteArray) (ks:List Expr) (ss:List Query) (w2:World) (b bx:Nat) (ka sa:Option Addr) (kcap scap:Nat) (w9:World):Prop:=
 ∃(k' o':Int) (n':Bool) (x':Val) (q' m':ByteArray) (wt:World) (ct:Cur),ChL [b] w2 wt/\ChL [bx] wt w9/\CurAt wt b ct/\(d6 (.string x'.text)/\d6 (.string q')/\d6 (.string m'))/\Bn (.mk k o n x q m ks ss) (.mk k' o' n' x' q' m' ks ss) /\
  w9.heap[bx]?=some (.cells #[.int .i64 k',.int .i64 o',.bool n',.int .i64 x'.kind,.int .i64 x'.num,.string x'.text,.string q',.string m',.slice ka ks.length kcap,.slice sa ss.length scap] 29 (0,0))
theorem zi {w:World} {b n:Nat} {t:TypeId} {us:List Value} (h:w.heap[b]?=some (.cells us.toArray t (0,0))) (hne:us≠[]) (hn:n<=maxLen) (hok:∀u∈us,d6 u):CellF w (.sl n (us.map D.lit)) (.slice (some ⟨b,0,none⟩) n n) [b]:=by
 have hv:∀us:List Value,(∀u∈us,d6 u)->ValsF w (us.map D.lit) us []:=fun us=>by
  induction us with
  |nil=>intro _;rfl
  |cons u r ih=>intro h;exact⟨[],[],⟨rfl,rfl,h u (by simp)⟩,ih (fun x hx=>h x (by simp [hx])),rfl⟩
 exact⟨_,n,rfl,Nat.le_refl _,hn,(fun e=>by cases e),.inr ⟨by simpa using hne,b,0,[],rfl,(hv us hok).row (bv h (r:=[]) (by simp)),rfl⟩⟩
def q0:Query:=.mk false [] [] [] [] 0
theorem Fu:q0.row=[.lit (.bool false),.sl 0 [],.sl 0 [],.sl 0 [],.sl 0 [],.lit (.int .i64 0)]:=by rw[q0,bj];rfl
def HT:List Value:=[.bool false,.slice none 0 0,.slice none 0 0,.slice none 0 0,.slice none 0 0,.int .i64 0]
theorem mt {w:World}:CellF w (.sl 0 []) (.slice none 0 0) []:=⟨none,0,rfl,Nat.le_refl _,by simp [maxLen],fun _=>rfl,.inl ⟨rfl,rfl⟩⟩
theorem sw {w:World}:Wh w (.sl 0 []) (.slice none 0 0):=⟨none,0,rfl,fun _=>rfl,.inl rfl⟩
theorem Fv (w:World):OwnT w q0.row HT []:=by
 rw[Fu]
 exact⟨aW (F:=[]) (R:=[]) (cM trivial) (aW (F:=[]) (R:=[]) mt (aW (F:=[]) (R:=[]) mt (aW (F:=[]) (R:=[]) mt (aW (F:=[]) (R:=[]) mt (aW (F:=[]) (R:=[]) (cM trivial) ey))))),List.nodup_nil,OwnL.nil _,⟨trivial,sw,sw,sw,sw,trivial,trivial⟩⟩
theorem mu:∀a b:List Query,cD (a++b)=cD a+cD b
 | [],b=>by rw[List.nil_append,cD,Nat.zero_add]
 |x::r,b=>by rw[List.cons_append,cD,cD,mu r b];omega
theorem jo:∀a:List Query,a.length<=cD a
 | []=>Nat.zero_le _
 |x::r=>by rw[cD,List.length_cons];have:=jo r;omega
theorem Fy {k o:Int} {n:Bool} {x:Val} {q m:ByteArray} {ks:List Expr} {ss:List Query}:Bn (.mk k o n x q m ks ss) (.mk k o n x q m ks (ss++[q0])):=by
 refine⟨?_,fun hR=>?_⟩
 ·rw[aZ,aZ,mu,cD,cD]
  have:szQuery q0=0:=by rw[q0,dy];simp [fY,cO,bE,d8]
  omega
 ·cases hR with
  |mk r1 r2 r3 r4=>
   refine .mk r1 r2 (fun y hy=>?_) (fun y hy=>?_)
   ·rcases List.mem_append.1 hy with h|h
    ·exact r3 y h
    ·rw[List.mem_singleton.1 h];show (0:Int)<=_;omega
   ·rcases List.mem_append.1 hy with h|h
    ·exact r4 y h
    ·rw[List.mem_singleton.1 h]
     intro z hz
     have e0:exprsQ q0=[]:=by first|rfl|simp [q0,exprsQ]
     rw[e0] at hz;cases hz
theorem fM:∀a b:List Expr,bE (a++b)=bE a+bE b
 | [],b=>by rw[List.nil_append,bE,Nat.zero_add]
 |x::r,b=>by rw[List.cons_append,bE,bE,fM r b];omega
theorem FA {k o:Int} {n:Bool} {x:Val} {q m:ByteArray} {ks:List Expr} {ss:List Query} {i:Nat} (hi:i<ks.length) {e':Expr} (h:Bn ks[i] e'):Bn (.mk k o n x q m ks ss) (.mk k o n x q m (ks.take i++e'::ks.drop (i+1)) ss):=by
 have e:ks=ks.take i++ks[i]::ks.drop (i+1):=by
  conv=>lhs;rw[<-List.take_append_drop i ks,List.drop_eq_getElem_cons hi]
 refine⟨?_,fun hR=>?_⟩
 ·have h1:bE ks=bE (ks.take i)+(szExpr ks[i]+1+bE (ks.drop (i+1))):=by
   conv=>lhs;rw[e,fM,bE]
  rw[aZ,aZ,fM,bE,h1]
  have:=h.1
  omega
 ·cases hR with
  |mk h1 h2 h3 h4=>
   refine .mk h1 (fun y hy=>?_) h3 h4
   rcases List.mem_append.1 hy with hy|hy
   ·exact h2 y (List.mem_of_mem_take hy)
   ·rcases List.mem_cons.1 hy with rfl|hy
    ·exact h.2 (h2 _ (aH hi))
    ·exact h2 y (List.mem_of_mem_drop hy)
theorem FB {k o:Int} {n:Bool} {x:Val} {q m:ByteArray} {ks:List Expr} {ss:List Query} {ec:Expr} (h:DrE 0 ec):Bn (.mk k o n x q m ks ss) (.mk k o n x q m (ks++[ec]) ss):=by
 refine⟨?_,fun hR=>?_⟩
 ·have:=h.sz
  rw[aZ,aZ,fM,bE,bE]
  simp only[dN] at this
  omega
 ·cases hR with
  |mk r1 r2 r3 r4=>
   refine .mk r1 (fun y hy=>?_) r3 r4
   rcases List.mem_append.1 hy with h'|h'
   ·exact r2 y h'
   ·rw[List.mem_singleton.1 h'];exact h.rg
theorem kY {k o k' o':Int} {n n':Bool} {x x':Val} {q m q' m':ByteArray} {ks:List Expr} {ss:List Query} (h1:jt x'+(q'.size+m'.size)<=jt x+(q.size+m.size)+2000) (h2:(-9223372036854775808<=x.num/\x.num<=9223372036854775807)->(-9223372036854775808<=x'.num/\x'.num<=9223372036854775807)) :
 Bn (.mk k o n x q m ks ss) (.mk k' o' n' x' q' m' ks ss):=by
 refine⟨?_,fun hR=>?_⟩
 ·rw[aZ,aZ];omega
 ·cases hR with
  |mk r1 r2 r3 r4=>exact .mk (h2 r1) r2 r3 r4
theorem cX {w:World} {b:Nat} {cur:Array Value} {t:TypeId} {fz:Nat×Nat} (hh:w.heap[b]?=some (.cells cur t fz)) (cs:Array Value):ChL [b] w (w.setRow b cs):=by
 have hnew:=setRow_heap w b cur cs t fz hh
 refine⟨⟨fun x hx hn=>setRow_other w b x _ (by simpa using hn),fun x hx=>?_,rfl,rfl,rfl⟩,by simp,fun x hx hn=>setRow_other w b x _ (by simpa using hn)⟩
 obtain⟨ob,ho,hv⟩:=hx
 by_cases e:x=b
 ·subst e;exact⟨_,hnew,by simp [Go.Vc.hid]⟩
 ·exact⟨ob,(setRow_other w b x _ e).trans ho,hv⟩
theorem ed {w w':World} {b:Nat} {F:List Nat} (h:ChL (b::F) w w') (hb:w.heap.size<=b):ChL F w w':=
 ⟨⟨fun x hx hn=>h.chg.blocks x hx fun e=>(List.mem_cons.1 e).elim (fun e=>by have:=Go.Cv.vis_lt hx;omega) hn,h.chg.seen,h.chg.os,h.chg.tape,h.chg.output⟩,h.size,fun x hx hn=>h.keep x hx fun e=>(List.mem_cons.1 e).elim (fun e=>by omega) hn⟩
theorem D3 {w:World} {k o:Int} {n:Bool} {x:Val} {q m:ByteArray} {ks:List Expr} {ss:List Query} {vs:List Value} {F:List Nat} (h:OwnT w (Expr.mk k o n x q m ks ss).row vs F) :
 ∃kv sv Fk Fs,vs=[.int .i64 k,.int .i64 o,.bool n,.int .i64 x.kind,.int .i64 x.num,.string x.text,.string q,.string m,kv,sv]/\F=Fk++Fs/\(d6 (.string x.text)/\d6 (.string q)/\d6 (.string m)) /\
  OwnT w [.sl ks.length (ks.flatMap Expr.row)] [kv] Fk/\OwnT w [.sl ss.length (ss.flatMap Query.row)] [sv] Fs/\∀y∈Fk,y ∉ Fs:=by
 rw[ai] at h
 have h:OwnT w ([.int .i64 k,.int .i64 o,.bool n,.int .i64 x.kind,.int .i64 x.num,.string x.text,.string q,.string m].map D.lit++([.sl ks.length (ks.flatMap Expr.row)]++[.sl ss.length (ss.flatMap Query.row)])) vs F:=h
 obtain⟨va,vb,Fa,Fb,rfl,rfl,ha,hb,_⟩:=h.split
 obtain⟨rfl,rfl,hok⟩:=nq ha.val
 obtain⟨v1,v2,F1,F2,rfl,rfl,h1,h2,hd⟩:=hb.split
 obtain⟨kv,rfl,_,_⟩:=h1.one
 obtain⟨sv,rfl,_,_⟩:=h2.one
 exact⟨kv,sv,F1,F2,rfl,rfl,⟨hok _ (by simp),hok _ (by simp),hok _ (by simp)⟩,h1,h2,hd⟩
theorem row_mk {w:World} {k o:Int} {n:Bool} {x:Val} {q m:ByteArray} {ks:List Expr} {ss:List Query} {kv sv:Value} {Fk Fs:List Nat} (hx:d6 (.string x.text)) (hq:d6 (.string q)) (hm:d6 (.string m))
 (h1:OwnT w [.sl ks.length (ks.flatMap Expr.row)] [kv] Fk) (h2:OwnT w [.sl ss.length (ss.flatMap Query.row)] [sv] Fs) (hd:∀y∈Fk,y ∉ Fs) :
 OwnT w (Expr.mk k o n x q m ks ss).row [.int .i64 k,.int .i64 o,.bool n,.int .i64 x.kind,.int .i64 x.num,.string x.text,.string q,.string m,kv,sv] (Fk++Fs):=by
 rw[ai]
 have hl:OwnT w ([.int .i64 k,.int .i64 o,.bool n,.int .i64 x.kind,.int .i64 x.num,.string x.text,.string q,.string m].map D.lit) [.int .i64 k,.int .i64 o,.bool n,.int .i64 x.kind,.int .i64 x.num,.string x.text,.string q,.string m] []:=
  ⟨aW (F:=[]) (R:=[]) (cM trivial) (aW (F:=[]) (R:=[]) (cM trivial) (aW (F:=[]) (R:=[]) (cM trivial) (aW (F:=[]) (R:=[]) (cM trivial) (aW (F:=[]) (R:=[]) (cM trivial) (aW (F:=[]) (R:=[]) (cM hx) (aW (F:=[]) (R:=[]) (cM hq) (aW (F:=[]) (R:=[]) (cM hm) ey))))))),List.nodup_nil,OwnL.nil _,⟨trivial,trivial,trivial,trivial,trivial,trivial,trivial,trivial,trivial⟩⟩
 exact hl.join (h1.join h2 hd) (by simp)
set_option maxHeartbeats 4000000 in
theorem wn:∀(sz:Nat) (e:Expr),SizeOf.sizeOf e<sz->szExpr e<=1000000->∀(w:World) (b:Nat) (c:Cur) (vs:List Value) (F:List Nat),OwnT w e.row vs F->b ∉ F->CurAt w b c->GlW w (fun x=>x=b∨x∈F) ->
 Go.Vc.callable Tryz.prog 53=true/\Calls Tryz.prog 53 #[.pointer (some ⟨b,0,none⟩),.agg vs.toArray] w fun r w'=>∃v,r = .returned v/\H8 e w b F v w':=by
 intro sz
 induction sz with
 |zero=>intro e h;exact absurd h (Nat.not_lt_zero _)
 |succ sz ih=>
 intro e he hsE w b c vs F hT hbF hc hg
 obtain⟨k,o,n,x,q,m,ks,ss⟩:=e
 obtain⟨kv,sv,Fk,Fs,rfl,rfl,⟨ox,oq,om⟩,hK,hS,hKS⟩:=D3 hT
 obtain⟨kv',e1,⟨ka,kcap,rfl,hk1,hk2,hk3,_⟩,hkw⟩:=hK.one
 injection e1 with e1
 subst e1
 obtain⟨sv',e1,⟨sa,scap,rfl,hs1,hs2,hs3,_⟩,hsw⟩:=hS.one
 injection e1 with e1
 subst e1
 refine⟨ac,?_⟩
 refine @ft _ w 53 Tryz.f53 _ [.pointer (some ⟨b,0,none⟩),.agg _] _ Tryz.func53 rfl (Nat.le_of_ble_eq_true rfl) ?_
 simp (maxSteps:=9999999) only[tt,Go.Cx.xc,Go.Cx.xl,Go.Cx.xOp,Go.Cx.xCall,Go.Cx.xStoreP,Go.Cv.cg0,Go.Cv.cg1,Go.Cv.cOp,Go.Cv.cLoad,Go.Cv.cLoadA,Go.Cv.cStore,Go.Cv.cAlloc,Go.Cv.cBox,Go.Cx.argsW,Go.Cv.regsV,Go.Vc.oneCell,Go.Vc.guardSlot,seval,Tryz.f53]
 intro bx w1 hbx0 hw1
 obtain⟨hbx,hg1⟩:=dt hbx0 hw1
 intro bz w2 hbz0 hw2
 obtain⟨hbz,hg2⟩:=dt hbz0 hw2
 have hgr:=hg1.trans hg2
 replace hbx:=ChL.at (hg2.chl []) hbx (by simp)
 have hzx:bz≠bx:=by
  have:=hg1.size
  have h2:=congrArg (fun w=>w.heap.size) hw1
  simp at h2
  omega
 have hlF:∀y∈Fk++Fs,y<w.heap.size:=fun y hy=>Go.Cv.vis_lt (hT.own.vis y hy)
 have hbw:b<w.heap.size:=by obtain⟨_,_,_,h,_⟩:=hc;exact (Array.getElem?_eq_some_iff.1 h).1
 have hbx':bx ∉ Fk++Fs:=fun h=>by have:=hlF _ h;omega
 have hbz':bz ∉ Fk++Fs:=fun h=>by have:=hlF _ h;have:=hg1.size;omega
 have hbxb:bx≠b:=by omega
 have hbzb:bz≠b:=by have:=hg1.size;omega
 replace hK:=hK.keep (hgr.chl []) (by simp)
 replace hS:=hS.keep (hgr.chl []) (by simp)
 replace hc:=hc.keep (hgr.chl []) (by simp)
 replace hg:GlW w2 (fun x=>x=b∨x∈Fk++Fs):=db (hgr.chl []) hg (by simp)
 refine⟨_,bP hbx (j:=8) rfl,?_⟩
 simp (maxSteps:=9999999) only[tt,seval]
 have hgb:GlW w2 (fun x=>x=b):=hg.mono (fun _ _ _=>rfl) fun _ h _=>.inl h
 have hgr:=hgr.chl [b]
 have hbK:∀y∈Fk,y ∉ [b]:=fun y hy e=>hbF ((by simpa using e:y=b)▸(by simp [hy]:y∈Fk++Fs))
 have hbS:∀y∈Fs,y ∉ [b]:=fun y hy e=>hbF ((by simpa using e:y=b)▸(by simp [hy]:y∈Fk++Fs))
 have hxK:∀y∈Fk,y ∉ [bx]:=fun y hy e=>hbx' ((by simpa using e:y=bx)▸(by simp [hy]:y∈Fk++Fs))
 have hxS:∀y∈Fs,y ∉ [bx]:=fun y hy e=>hbx' ((by simpa using e:y=bx)▸(by simp [hy]:y∈Fk++Fs))
 have hzK:∀y∈Fk,y ∉ [bz]:=fun y hy e=>hbz' ((by simpa using e:y=bz)▸(by simp [hy]:y∈Fk++Fs))
 have hzS:∀y∈Fs,y ∉ [bz]:=fun y hy e=>hbz' ((by simpa using e:y=bz)▸(by simp [hy]:y∈Fk++Fs))
 by_cases hpos:(0:Int)<ks.length
 case' neg=>
  simp (maxSteps:=9999999) only[tt,seval,hpos,forall_const,imp_self]
  obtain⟨w3,hw3⟩:∃w3,w3=w2:=⟨_,rfl⟩
  obtain⟨c3,hc3⟩:∃c3,CurAt w3 b c3:=⟨c,by rw[hw3];exact hc⟩
  have g3:ChL [b] w2 w3:=by rw[hw3];exact ChL.refl _ _
  rw[<-hw3]
 case' pos=>
  simp (maxSteps:=9999999) only[tt,seval,hpos,forall_const,imp_self]
  obtain⟨cc1,cc2⟩:=dM (bu c hc.1 2) rfl hc (vs:=[.int .i64 2]) (fun β ok h=>⟨⟨rfl,trivial⟩,trivial⟩) hgb
  refine⟨cc1,_,cc2,?_⟩
  rintro v w3 ⟨r,c3,⟨bo,rfl⟩,hc3,g3,hres⟩
  obtain rfl:=hres.val
  refine Stp.go ?_
  simp (maxSteps:=9999999) only[tt,Go.Cx.argsW,seval,forall_const]
  have hbx3:=ChL.at g3 hbx (by simpa using hbxb)
  refine ab (fun hb=>?_) (fun hb=>?_)
  ·refine⟨_,bP hbx3 (j:=8) rfl,?_⟩
   simp (maxSteps:=9999999) only[tt,seval]
   obtain⟨cc1,cc2⟩:=dM ((bf c3 hc3.1 ks.length).mono fun r os ⟨x,c',h1,h2,h3,h4⟩=>(⟨c',⟨x,h1,h3⟩,h2,h4⟩:pW (fun r=>∃x:Int,r=vi x/\0<=x/\(0<(ks.length:Int)->x<ks.length)) r os)) rfl hc3 (vs:=[.int .i64 ks.length]) (fun β ok h=>⟨⟨rfl,trivial⟩,trivial⟩) (db g3 hgb (by simp))
   refine⟨cc1,_,cc2,?_⟩
   rintro v w4 ⟨r,c4,⟨j,rfl,hj0,hj1⟩,hc4,g4,hres⟩
   obtain rfl:=hres.val
   have hj1:=hj1 hpos
   obtain⟨i,rfl⟩:∃i:Nat,j=i:=⟨j.toNat,aa⟩
   refine Stp.go ?_
   simp (maxSteps:=9999999) only[tt,seval]
   refine⟨ah,xDrawn.intro (.take 0 (.take 2 (.take 3 (.take 4 (.take 5 (.take 6 (.take 7 (.take 8 (.br 1 (.br 9 (.take 10 (.br 11 .done .nobr)) .nobr) (.br 9 (.take 1 (.take 10 (.br 11 .done .nobr))) .nobr)))))))))) ac fun w5 p5 g5=>?_⟩
   have hi:i<ks.length:=by omega
   have g35:ChL [b] w2 w5:=(g3.trans g4).trans (g5.chl _)
   have hbFk:b ∉ Fk:=fun h=>hbF (by simp [h])
   have hbFs:b ∉ Fs:=fun h=>hbF (by simp [h])
   have hK5:=hK.keep g35 (fun y hy e=>hbFk ((by simpa using e:y=b)▸hy))
   have hS5:=hS.keep g35 (fun y hy e=>hbFs ((by simpa using e:y=b)▸hy))
   have hbx5:=ChL.at g35 hbx (by simpa using hbxb)
   have hbz5:=ChL.at g35 hbz (by simpa using hbzb)
   have hc5:=hc4.keep (g5.chl []) (by simp)
   have hg5:GlW w5 (fun x=>x=b∨x∈Fk++Fs):=db g35 hg (by simp)
   have hne:ks.flatMap Expr.row≠[]:=fun e=>by
    have:=congrArg List.length e
    rw[aQ aK] at this
    simp at this
    omega
   obtain⟨bk,cap',vsK,Fi,cur,t,fz,sz',e1,rfl,hin,hbk,hcl,hbh,hlh,hnc,hcm,hsz',hcap⟩:=hK5.into hne
   injection e1 with e1 _ e3
   subst e1 e3
   have hsp:ks.flatMap Expr.row=(ks.take i).flatMap Expr.row++(ks[i].row++(ks.drop (i+1)).flatMap Expr.row):=by
    conv=>lhs;rw[<-List.take_append_drop i ks,List.drop_eq_getElem_cons hi]
    rw[List.flatMap_append,List.flatMap_cons]
   have hin2:=hin
   rw[hsp] at hin2
   obtain⟨va,vr,Fa,Fr,rfl,rfl,hta,htr,hd1⟩:=hin2.split
   obtain⟨vx,vb,Fx,Fb,rfl,rfl,htx,htb,hd2⟩:=htr.split
   have hva:va.length=i*10:=by rw[hta.val.length,aQ aK,List.length_take];omega
   have hvx:vx.length=10:=by rw[htx.val.length,aK]
   simp (maxSteps:=9999999) only[tt,Go.Cx.xOp,Go.Cx.xCall,Go.Cx.xStoreP,Go.Cx.xPlan,Go.Cv.cg0,Go.Cv.cOp,Go.Cv.cLoad,Go.Cv.cLoadA,Go.Cv.cStore,Go.Cx.argsW,Go.Vc.oneCell,seval]
   refine⟨_,bP hbx5 (j:=8) rfl,?_⟩
   simp (maxSteps:=9999999) only[tt,seval]
   refine⟨aa,aa,vx,hvx,?_,?_⟩
   ·intro j v hj
    have:=hcl (va.length+j) v (by rw[List.getElem?_append_right aa,Nat.add_sub_cancel_left,List.getElem?_append_left (List.getElem?_eq_some_iff.1 hj).1];exact hj)
    rw[hva] at this
    simpa using this
   have hsz10:sz'=10:=Nat.eq_of_mul_eq_mul_left (show 0<ks.length by omega) (by rw[<-hsz',aQ aK])
   subst hsz10
   have hbxT:bx ∉ b::Fx:=by simp only[List.mem_append,List.mem_cons,not_or] at hbx' ⊢;exact⟨hbxb,hbx'.1.2.2.1⟩
   have hbzT:bz ∉ b::Fx:=by simp only[List.mem_append,List.mem_cons,not_or] at hbz' ⊢;exact⟨hbzb,hbz'.1.2.2.1⟩
   have hbT:b ∉ Fx:=fun h=>hbFk (by simp [h])
   have hszi:SizeOf.sizeOf ks[i]<sz:=by
    have:=List.sizeOf_lt_of_mem (aH hi)
    simp only[Expr.mk.sizeOf_spec] at he
    omega
   obtain⟨ih1,ih2⟩:=ih ks[i] hszi (by
    have h1:bE ks=bE (ks.take i)+(szExpr ks[i]+1+bE (ks.drop (i+1))):=by
     conv=>lhs;rw[<-List.take_append_drop i ks,List.drop_eq_getElem_cons hi,fM,bE]
    rw[aZ,h1] at hsE
    omega) w5 b c4 vx Fx htx hbT hc5 (hg5.mono (fun _ _ _=>rfl) fun y hy _=>hy.imp id fun h=>by simp [h])
   refine ab ?_ ?_
   all_goals
    try refine⟨_,bP hbx5 (j:=8) rfl,?_⟩
    try simp (maxSteps:=9999999) only[seval]
    refine⟨ih1,_,ih2,?_⟩
    rintro v w6 ⟨e',vs',F',c6,rfl,hT6,hF6,g6,hc6,hbn⟩
    have hbx6:=ChL.at g6 hbx5 hbxT
    have hbz6:=ChL.at g6 hbz5 hbzT
    refine Stp.go ?_
    simp (maxSteps:=9999999) only[tt,seval]
    try refine⟨_,bP hbx6 (j:=8) rfl,?_⟩
    try simp (maxSteps:=9999999) only[tt,seval]
    have hvs':vs'.length=10:=by rw[hT6.val.length,aK]
    have hbkT:bk ∉ b::Fx:=by
     simp only[List.mem_append,not_or] at hbk
     simp only[List.mem_cons,not_or]
     exact⟨fun e=>hbFk (by simp [e]),hbk.2.1⟩
    have hbh6:=ChL.at g6 hbh hbkT
    have hcl6:=hcl.chg g6.chg hbkT
    refine⟨aa,aa,by rw[List.size_toArray,hvs'],cur,t,fz,hbh6,hlh,?_,fun u hu=>?_,_,rfl,?_⟩
    ·rw[hvs']
     have:=Nat.mul_le_mul_right 10 hnc
     omega
    ·rw[Go.Vc.oneCell_eq];exact hT6.val.oneCell u (by simpa using hu)
    refine Stp.go ?_
    generalize hw7:w6.setRow bk _=w7
    obtain⟨g7,hcl7,⟨cur7,hbh7,hcs7⟩,_⟩:=Dd hbh6 (o:=0) hcl6 (vy:=vs') (by rw[hvs',hvx]) (fun e=>by rw[e] at hvx;simp at hvx) w7 (by rw[<-hw7];simp [hva])
    have hbx7:=ChL.at g7 hbx6 (by simp only[List.mem_append,List.mem_cons,List.not_mem_nil,not_or,or_false] at hbx' ⊢;exact hbx'.1.1)
    have hbz7:=ChL.at g7 hbz6 (by simp only[List.mem_append,List.mem_cons,List.not_mem_nil,not_or,or_false] at hbz' ⊢;exact hbz'.1.1)
    simp (maxSteps:=9999999) only[tt,seval]
    refine⟨[.int .i64 k,.int .i64 o,.bool n,.int .i64 x.kind,.int .i64 x.num,.string x.text,.string q,.string m,.slice (some ⟨bk,0,none⟩) ks.length kcap,.slice sa ss.length scap],rfl,bv hbx7 (r:=[]) (by simp),?_⟩
    simp (maxSteps:=9999999) only[tt,seval]
    refine⟨by first|rfl|trivial,_,_,_,hbz7,Lh.zero _,by simp,fun u hu=>?_,_,rfl,Stp.go ?_⟩
    ·simp only[List.mem_cons,List.not_mem_nil,or_false] at hu
     rcases hu with rfl|rfl|rfl|rfl|rfl|rfl|rfl|rfl|rfl|rfl<;>rfl
    generalize hw8:World.setRow w7 bz _=w8
    have hw8:World.setRow w7 bz ([.int .i64 k,.int .i64 o,.bool n,.int .i64 x.kind,.int .i64 x.num,.string x.text,.string q,.string m,.slice (some ⟨bk,0,none⟩) ks.length kcap,.slice sa ss.length scap]:List Value).toArray=w8:=by rw[<-hw8];rfl
    have hbz8:=setRow_heap w7 bz _ ([.int .i64 k,.int .i64 o,.bool n,.int .i64 x.kind,.int .i64 x.num,.string x.text,.string q,.string m,.slice (some ⟨bk,0,none⟩) ks.length kcap,.slice sa ss.length scap]:List Value).toArray 29 _ hbz7
    have g8:=cX hbz7 ([.int .i64 k,.int .i64 o,.bool n,.int .i64 x.kind,.int .i64 x.num,.string x.text,.string q,.string m,.slice (some ⟨bk,0,none⟩) ks.length kcap,.slice sa ss.length scap]:List Value).toArray
    rw[hw8] at hbz8 g8
    refine⟨[.int .i64 k,.int .i64 o,.bool n,.int .i64 x.kind,.int .i64 x.num,.string x.text,.string q,.string m,.slice (some ⟨bk,0,none⟩) ks.length kcap,.slice sa ss.length scap],rfl,bv hbz8 (r:=[]) (by simp),?_⟩
    have lt5:∀y,y∈(bk::(Fa++(Fx++Fb)))++Fs->y<w5.heap.size:=fun y hy=>Go.Cv.vis_lt ((hK5.own.app hS5.own).vis y hy)
    have hbk5:bz<w5.heap.size:=(Array.getElem?_eq_some_iff.1 hbz5).1
    have nF:∀y,y<w5.heap.size->y ∉ Fx->y ∉ F':=fun y hy hn h=>(hF6 y h).elim hn aa
    have hmem:∀y,y∈Fa∨y∈Fx∨y∈Fb->y∈(bk::(Fa++(Fx++Fb)))++Fs:=fun y hy=>by
     simp only[List.cons_append,List.mem_cons,List.mem_append];rcases hy with h|h|h<;>simp [h]
    simp only[List.mem_append,not_or] at hbk
    have hbne:b≠bk:=fun e=>hbFk (by simp [e])
    have nb:∀y,y∈(bk::(Fa++(Fx++Fb)))++Fs->y≠b:=fun y hy e=>hbF (e▸hy)
    have nbz:∀y,y∈(bk::(Fa++(Fx++Fb)))++Fs->y≠bz:=fun y hy e=>hbz' (e▸hy)
    have k6:∀y,y∈(bk::(Fa++(Fx++Fb)))++Fs->y ∉ Fx->y ∉ b::Fx:=fun y hy hn h=>(List.mem_cons.1 h).elim (nb y hy) hn
    have k7:∀y,y≠bk->y ∉ [bk]:=fun y hn h=>hn (by simpa using h)
    have fa7:=(hta.keep g6 (fun y hy=>k6 y (hmem y (.inl hy)) fun h=>hd1 y hy (by simp [h]))).keep g7 (fun y hy=>k7 y fun e=>hbk.1 (e▸hy))
    have fb7:=(htb.keep g6 (fun y hy=>k6 y (hmem y (.inr (.inr hy))) fun h=>hd2 y h hy)).keep g7 (fun y hy=>k7 y fun e=>hbk.2.2 (e▸hy))
    have bkF:bk ∉ F':=nF bk (lt5 bk (by simp)) hbk.2.1
    have fx7:=hT6.keep g7 (fun y hy=>k7 y fun e=>bkF (e▸hy))
    have fs6:=hS5.keep g6 (fun y hy=>k6 y (by simp [hy]) fun h=>hKS y (by simp [h]) hy)
    have fs8:=(fs6.keep g7 (fun y hy=>k7 y fun e=>hKS bk (by simp) (e▸hy))).keep g8 (fun y hy e=>nbz y (by simp [hy]) (by simpa using e))
    have j7:=fa7.join (fx7.join fb7 (fun y hy hb=>by
     rcases hF6 y hy with h|h
     ·exact hd2 y h hb
     ·have:=lt5 y (hmem y (.inr (.inr hb)));omega)) (fun y hy hb=>by
     rcases List.mem_append.1 hb with hb|hb
     ·exact nF y (lt5 y (hmem y (.inl hy))) (fun h=>hd1 y hy (by simp [h])) hb
     ·exact hd1 y hy (by simp [hb]))
    have hfm:(ks.take i++e'::ks.drop (i+1)).flatMap Expr.row=(ks.take i).flatMap Expr.row++(e'.row++(ks.drop (i+1)).flatMap Expr.row):=by rw[List.flatMap_append,List.flatMap_cons]
    have hln:(ks.take i++e'::ks.drop (i+1)).length=ks.length:=by simp;omega
    rw[<-hfm] at j7
    have K7:=j7.outof (n:=ks.length) (sz:=10) (cap:=kcap) (b:=bk) (fun h=>by
     simp only[List.mem_append] at h
     rcases h with h|h|h
     ·exact hbk.1 h
     ·exact bkF h
     ·exact hbk.2.2 h) hcl7 hbh7 (by rw[hcs7];exact hlh) hnc hcm (by rw[aQ aK,hln]) (by rw[hcs7];exact hcap) (fun e=>by
     have:=congrArg List.length e
     rw[aQ aK,hln] at this
     simp at this
     omega)
    have K8:=K7.keep g8 (fun y hy e=>by
     obtain rfl:y=bz:=by simpa using e
     simp only[List.mem_cons,List.mem_append] at hy
     rcases hy with h|h|h|h
     ·exact nbz bk (by simp) h.symm
     ·exact nbz _ (hmem _ (.inl h)) rfl
     ·rcases hF6 _ h with h|h
      ·exact nbz _ (hmem _ (.inr (.inl h))) rfl
      ·omega
     ·exact nbz _ (hmem _ (.inr (.inr h))) rfl)
    rw[<-hln] at K8
    have M8:=row_mk (k:=k) (o:=o) (n:=n) ox oq om K8 fs8 (fun y hy hs=>by
     simp only[List.mem_cons,List.mem_append] at hy
     rcases hy with rfl|h|h|h
     ·exact hKS y (by simp) hs
     ·exact hKS y (by simp [h]) hs
     ·rcases hF6 y h with h|h
      ·exact hKS y (by simp [h]) hs
      ·have:=lt5 y (by simp [hs]);omega
     ·exact hKS y (by simp [h]) hs)
    rw[hln] at M8
    have sz2:w2.heap.size<=w5.heap.size:=g35.size
    have sz0:w.heap.size<=w2.heap.size:=hgr.size
    refine⟨_,_,_,c6,rfl,M8,fun y hy=>?_,?_,(hc6.keep g7 (fun h=>hbne (by simpa using h))).keep g8 (fun h=>hbzb (by simpa using h:b=bz).symm),FA hi hbn⟩
    ·simp only[List.mem_cons,List.mem_append] at hy ⊢
     rcases hy with (h|h|h|h)|h
     ·simp [h]
     ·simp [h]
     ·rcases hF6 y h with h|h
      ·simp [h]
      ·exact .inr aa
     ·simp [h]
     ·simp [h]
    ·have G:∀(F0:List Nat) (u v:World),ChL F0 u v->(∀y∈F0,y∈bz::b::((bk::(Fa++(Fx++Fb)))++Fs))->ChL (bz::b::((bk::(Fa++(Fx++Fb)))++Fs)) u v:=fun _ _ _ h hs=>h.mono hs
     exact ed (((((G _ _ _ hgr (by simp)).trans (G _ _ _ g35 (by simp))).trans (G _ _ _ g6 (by simp;intro y hy;simp [hy]))).trans (G _ _ _ g7 (by simp))).trans (G _ _ _ g8 (by simp))) (by have:=hg1.size;omega)
 all_goals
  obtain⟨cc1,cc2⟩:=dM ((bf c3 hc3.1 8).mono fun r os ⟨x,c',h1,h2,h3,h4⟩=>(⟨c',⟨x,h1,h3⟩,h2,h4⟩:pW (fun r=>∃x:Int,r=vi x/\0<=x/\(0<(8:Int)->x<8)) r os)) rfl hc3 (vs:=[.int .i64 8]) (fun β ok h=>⟨⟨rfl,trivial⟩,trivial⟩) (db g3 hgb (by simp))
  refine⟨cc1,_,cc2,?_⟩
  rintro v ws ⟨r,cs,⟨y,rfl,y0,y1⟩,hcs,gcs,hres⟩
  obtain rfl:=hres.val
  refine Stp.go ?_
  simp (maxSteps:=9999999) only[tt,Go.Cx.argsW,seval]
  have gW:=(g3).trans gcs
  refine ab (fun hy0=>?_) (fun hy0=>?_)
  obtain⟨cc1,cc2⟩:=dM ((bf cs hcs.1 12).mono fun r os ⟨x,c',h1,h2,h3,h4⟩=>(⟨c',⟨x,h1,h3⟩,h2,h4⟩:pW (fun r=>∃x:Int,r=vi x/\0<=x/\(0<(12:Int)->x<12)) r os)) rfl hcs (vs:=[.int .i64 12]) (fun β ok h=>⟨⟨rfl,trivial⟩,trivial⟩) (db gW hgb (by simp))
  refine⟨cc1,_,cc2,?_⟩
  rintro v2 wt ⟨r,ct,⟨y2,rfl,y20,y21⟩,hct,gct,hres⟩
  obtain rfl:=hres.val
  refine Stp.go ?_
  simp (maxSteps:=9999999) only[tt,Nat.add_zero,seval]
  have gX:=gW.trans gct
  refine mA (ChL.at gX hbx (by simpa using hbxb)) (Lh.zero _) (by simp) fun w9 hb9 g9 e9=>?_
  have hb9:w9.heap[bx]?=some (.cells #[.int .i64 (IntKind.i64.wrap (y2-1)),.int .i64 o,.bool n,.int .i64 x.kind,.int .i64 x.num,.string x.text,.string q,.string m,.slice ka ks.length kcap,.slice sa ss.length scap] 29 (0,0)):=hb9
  simp (maxSteps:=9999999) only[tt,seval]
  have T9:G8 k o n x q m ks ss w2 b bx ka sa kcap scap w9:=⟨(IntKind.i64.wrap (y2-1)),o,n,x,q,m,wt,ct,gX,g9,hct,⟨ox,oq,om⟩,kY aa id,hb9⟩
  rotate_left
  refine ab (fun hy1=>?_) (fun hy1=>?_)
  refine⟨ae,ae,ac,rfl,fun u hu=>?_,fun bi wi hbi hwi=>?_⟩
  ·simp only[List.mem_cons,List.not_mem_nil,or_false] at hu
   rcases hu with rfl|rfl|rfl|rfl|rfl|rfl|rfl<;>rfl
  obtain⟨hbi',gi⟩:=dt hbi hwi
  have gWi:=gW.trans (gi.chl _)
  simp (maxSteps:=9999999) only[tt,Go.Cx.argsW,seval]
  have hcsI:=hcs.keep (gi.chl []) (by simp)
  have hbib:bi≠b:=by
   obtain⟨_,_,_,h,_⟩:=hcs
   have:=(Array.getElem?_eq_some_iff.1 h).1
   omega
  obtain⟨cc1,cc2⟩:=dM (kx cs hcs.1 [0,1,14,15,16,17,-1] ae) rfl hcsI (vs:=[.slice (some ⟨bi,0,none⟩) 7 7]) (fun β ok h=>⟨⟨[bi],zi (us:=[.int .i64 (0),.int .i64 (1),.int .i64 (14),.int .i64 (15),.int .i64 (16),.int .i64 (17),.int .i64 (-1)]) (n:=7) hbi' (by simp) (by simp [maxLen]) (by simp [d6]),fun y hy=>h y (fun e=>hbib ((by simpa using hy:y=bi)▸e)),fun _ e=>by cases e⟩,trivial⟩) (db gWi hgb (by simp))
  refine⟨cc1,_,cc2,?_⟩
  rintro v2 wt ⟨r,ct,⟨uL,hop2,rfl⟩,hct,gct,hres⟩
  obtain rfl:=hres.val
  refine Stp.go ?_
  simp (maxSteps:=9999999) only[tt,seval]
  have gX:=gWi.trans gct
  refine mA (ChL.at gX hbx (by simpa using hbxb)) (Lh.zero _) (by simp) fun w9 hb9 g9 e9=>?_
  have hb9:w9.heap[bx]?=some (.cells #[.int .i64 k,.int .i64 uL,.bool n,.int .i64 x.kind,.int .i64 x.num,.string x.text,.string q,.string m,.slice ka ks.length kcap,.slice sa ss.length scap] 29 (0,0)):=hb9
  simp (maxSteps:=9999999) only[tt,seval]
  have T9:G8 k o n x q m ks ss w2 b bx ka sa kcap scap w9:=⟨k,uL,n,x,q,m,wt,ct,gX,g9,hct,⟨ox,oq,om⟩,kY aa id,hb9⟩
  rotate_left
  refine ab (fun hy2=>?_) (fun hy2=>?_)
  refine⟨_,bP (ChL.at gW hbx (by simpa using hbxb)) (j:=2) rfl,?_⟩
  simp (maxSteps:=9999999) only[tt,seval]
  refine mA (ChL.at gW hbx (by simpa using hbxb)) (Lh.zero _) (by simp) fun w9 hb9 g9 e9=>?_
  have hb9:w9.heap[bx]?=some (.cells #[.int .i64 k,.int .i64 o,.bool (!n),.int .i64 x.kind,.int .i64 x.num,.string x.text,.string q,.string m,.slice ka ks.length kcap,.slice sa ss.length scap] 29 (0,0)):=hb9
  simp (maxSteps:=9999999) only[tt,seval]
  have T9:G8 k o n x q m ks ss w2 b bx ka sa kcap scap w9:=⟨k,o,(!n),x,q,m,ws,cs,gW,g9,hcs,⟨ox,oq,om⟩,kY aa id,hb9⟩
  rotate_left
  refine ab (fun hy3=>?_) (fun hy3=>?_)
  obtain⟨cc1,cc2⟩:=dM (Bl cs hcs.1) rfl hcs (vs:=[]) (fun β ok h=>trivial) (db gW hgb (by simp))
  refine⟨cc1,_,cc2,?_⟩
  rintro v2 wt ⟨r,ct,⟨xv,rfl,hxv⟩,hct,gct,hres⟩
  obtain⟨vv,G0,rfl,hvv⟩:=hres.ag
  have hvv:ValsF wt ([.int .i64 xv.kind,.int .i64 xv.num,.string xv.text].map D.lit) vv G0:=hvv
  obtain⟨rfl,rfl,hok⟩:=nq hvv
  refine Stp.go ?_
  simp (maxSteps:=9999999) only[tt,seval]
  have gX:=gW.trans gct
  have hbX:=ChL.at gX hbx (by simpa using hbxb)
  refine⟨by first|rfl|trivial,_,_,_,hbX,Lh.zero _,by simp,fun u hu=>?_,_,rfl,Stp.go ?_⟩
  ·simp only[List.mem_cons,List.not_mem_nil,or_false] at hu
   rcases hu with rfl|rfl|rfl<;>rfl
  generalize hw9:World.setRow wt bx _=w9
  have hw9:World.setRow wt bx ([.int .i64 k,.int .i64 o,.bool n,.int .i64 xv.kind,.int .i64 xv.num,.string xv.text,.string q,.string m,.slice ka ks.length kcap,.slice sa ss.length scap]:List Value).toArray=w9:=by rw[<-hw9];rfl
  have hb9:=setRow_heap wt bx _ ([.int .i64 k,.int .i64 o,.bool n,.int .i64 xv.kind,.int .i64 xv.num,.string xv.text,.string q,.string m,.slice ka ks.length kcap,.slice sa ss.length scap]:List Value).toArray 29 _ hbX
  have g9:=cX hbX ([.int .i64 k,.int .i64 o,.bool n,.int .i64 xv.kind,.int .i64 xv.num,.string xv.text,.string q,.string m,.slice ka ks.length kcap,.slice sa ss.length scap]:List Value).toArray
  rw[hw9] at hb9 g9
  simp (maxSteps:=9999999) only[tt,seval]
  have T9:G8 k o n x q m ks ss w2 b bx ka sa kcap scap w9:=⟨k,o,n,xv,q,m,wt,ct,gX,g9,hct,⟨hok _ (by simp),oq,om⟩,kY (by unfold jt;have:=hxv.2;omega) (fun _=>by have:=hxv.1;unfold wl at this;omega),hb9⟩
  rotate_left
  refine ab (fun hy4=>?_) (fun hy4=>?_)
  obtain⟨cc1,cc2⟩:=dM (xN cs hcs.1) rfl hcs (vs:=[]) (fun β ok h=>trivial) (db gW hgb (by simp))
  refine⟨cc1,_,cc2,?_⟩
  rintro v2 wt ⟨r,ct,⟨s2,rfl,hs2⟩,hct,gct,hres⟩
  obtain rfl:=hres.val
  have os2:d6 (.string s2):=Nat.le_trans hs2 (by simp [maxLen])
  refine Stp.go ?_
  simp (maxSteps:=9999999) only[tt,seval]
  have gX:=gW.trans gct
  refine mA (ChL.at gX hbx (by simpa using hbxb)) (Lh.zero _) (by simp) fun w9 hb9 g9 e9=>?_
  have hb9:w9.heap[bx]?=some (.cells #[.int .i64 k,.int .i64 o,.bool n,.int .i64 x.kind,.int .i64 x.num,.string x.text,.string q,.string s2,.slice ka ks.length kcap,.slice sa ss.length scap] 29 (0,0)):=hb9
  simp (maxSteps:=9999999) only[tt,seval]
  have T9:G8 k o n x q m ks ss w2 b bx ka sa kcap scap w9:=⟨k,o,n,x,q,s2,wt,ct,gX,g9,hct,⟨ox,oq,os2⟩,kY aa id,hb9⟩
  rotate_left
  refine ab (fun hy5=>?_) (fun hy5=>?_)
  obtain⟨cc1,cc2⟩:=dM (xN cs hcs.1) rfl hcs (vs:=[]) (fun β ok h=>trivial) (db gW hgb (by simp))
  refine⟨cc1,_,cc2,?_⟩
  rintro v2 wt ⟨r,ct,⟨s2,rfl,hs2⟩,hct,gct,hres⟩
  obtain rfl:=hres.val
  have os2:d6 (.string s2):=Nat.le_trans hs2 (by simp [maxLen])
  refine Stp.go ?_
  simp (maxSteps:=9999999) only[tt,seval]
  have gX:=gW.trans gct
  refine mA (ChL.at gX hbx (by simpa using hbxb)) (Lh.zero _) (by simp) fun w9 hb9 g9 e9=>?_
  have hb9:w9.heap[bx]?=some (.cells #[.int .i64 k,.int .i64 o,.bool n,.int .i64 x.kind,.int .i64 x.num,.string x.text,.string s2,.string m,.slice ka ks.length kcap,.slice sa ss.length scap] 29 (0,0)):=hb9
  simp (maxSteps:=9999999) only[tt,seval]
  have T9:G8 k o n x q m ks ss w2 b bx ka sa kcap scap w9:=⟨k,o,n,x,s2,m,wt,ct,gX,g9,hct,⟨ox,os2,om⟩,kY aa id,hb9⟩
  rotate_left
  refine ab (fun hy6=>?_) (fun hy6=>?_)
  ·try simp (maxSteps:=9999999) only[tt,Go.Cx.xc,Go.Cx.xl,Go.Cx.xOp,Go.Cx.xCall,Go.Cx.xStoreP,Go.Cx.xPlan,kV,Go.Cv.cg0,Go.Cv.cg1,Go.Cv.cOp,Go.Cv.cLoad,Go.Cv.cLoadA,Go.Cv.cStore,Go.Cv.cAlloc,Go.Cv.cBox,Go.Cv.cEnd,Go.Cv.cRet,Go.Cv.argsV,Go.Cx.argsW,Go.Cv.regsV,Go.Vc.oneCell,Go.Vc.guardSlot,Nat.add_zero,seval,true_implies,not_true_eq_false,false_implies,and_true,true_and,not_false_eq_true,forall_const,imp_self,implies_true]
   refine⟨ah,xDrawn.intro (.take 0 (.take 2 (.br 1 (.br 3 (.br 4 (.br 5 (.take 6 (.br 7 .done .nobr)) .nobr) .nobr) .nobr) (.br 3 (.take 1 (.br 4 (.br 5 (.take 6 (.br 7 .done .nobr)) .nobr) .nobr)) .nobr)))) ac fun wd pd gd=>?_⟩
   have hcd:=hcs.keep (gd.chl []) (by simp)
   have gD:=gW.trans (gd.chl _)
   have hbxd:=ChL.at gD hbx (by simpa using hbxb)
   simp (maxSteps:=9999999) only[tt,Go.Cx.xOp,Go.Cx.xCall,Go.Cx.xStoreP,Go.Cx.xPlan,Go.Cv.cg0,Go.Cv.cOp,Go.Cv.cLoad,Go.Cv.cStore,Go.Cx.argsW,Go.Vc.oneCell,seval]
   refine ab ?_ ?_
   all_goals
    try refine⟨_,bP hbxd (j:=8) rfl,?_⟩
    try simp (maxSteps:=9999999) only[seval]
    obtain⟨cc1,cc2⟩:=dM (sr 0 cs hcs.1) rfl hcd (vs:=[]) (fun β ok h=>trivial) (db gD hgb (by simp))
    refine⟨cc1,_,cc2,?_⟩
    rintro v2 wt ⟨r,ct,⟨ec,Ek,Es,rfl,hec⟩,hct,gct,hres⟩
    obtain⟨vv,G0,rfl,hvv,hnew,hwl⟩:=hres.tdw (og ec.row [Ek,Es] (by obtain⟨ek,eo,en,ev,eq,em,eks,ess⟩:=ec;rw[ai];rfl))
    have hx0:OwnT wt ec.row vv G0:=⟨hvv,hnew.nodup,hnew.own,hwl⟩
    refine Stp.go ?_
    try simp (maxSteps:=9999999) only[tt,seval]
    try refine⟨_,bP (ChL.at gct hbxd (by simpa using hbxb)) (j:=8) rfl,?_⟩
    simp (maxSteps:=9999999) only[tt,seval,Go.Cx.xBuildS,Go.Cx.valsV,Go.Cx.cellsL,Go.Dv.ev,reduceIte]
    refine⟨ac,fun u hu=>?_,fun bi wi hbi hwi=>?_⟩
    ·rw[List.mem_singleton.1 hu];show vv.toArray.size=10;rw[List.size_toArray,hvv.length,aK]
    obtain⟨hbi',gi⟩:=dt hbi hwi
    have gWi:=(gD.trans gct).trans (gi.chl _)
    have hKi:=hK.keep gWi hbK
    have szd:w2.heap.size<=wd.heap.size:=gD.size
    have szi:w2.heap.size<=wi.heap.size:=gWi.size
    have ltK:∀y∈Fk,y<w.heap.size:=fun y hy=>hlF y (by simp [hy])
    have s0:w.heap.size<=w2.heap.size:=hgr.size
    have nG:∀y∈G0,w2.heap.size<=y:=fun y hy=>Nat.le_trans szd (hnew.new y hy)
    have kl:ks.length<=1000000:=by
     have:∀l:List Expr,l.length<=bE l:=fun l=>by rw[aL];omega
     have:=this ks
     rw[aZ] at hsE
     omega
    refine wy (e:=29) (sz:=10) (bytes:=136) (eu:=29) ac ac ac ae hKi (aQ aK ks) (hx0.keep (gi.chl []) (by simp)) (aK _) (fun y hy h=>by have:=nG y h;have:=ltK y hy;omega) ⟨by rw[hvv.length,aK],.inr ⟨bi,0,rfl,fun j v hj=>bv (cs:=vv) hbi' (r:=[]) (by simp) j v hj⟩⟩ (fun u hu=>by rw[Go.Vc.oneCell_eq];exact hvv.oneCell u hu) ⟨by simp only[maxLen];omega,aa⟩ fun v w9 F' hO hF' gF=>?_
    obtain⟨v',e9,⟨na,ncap,rfl,_⟩,_⟩:=hO.one
    injection e9 with e9
    subst e9
    have bF:∀y,y ∉ Fk++Fs->y ∉ Fk:=fun y h hy=>h (by simp [hy])
    have hb9x:=ChL.at gF (ChL.at gWi hbx (by simpa using hbxb)) (bF _ hbx')
    have hb9z:=ChL.at gF (ChL.at gWi hbz (by simpa using hbzb)) (bF _ hbz')
    have hc9:=(hct.keep (gi.chl []) (by simp)).keep gF (bF _ hbF)
    simp (maxSteps:=9999999) only[tt,seval]
    refine mA hb9x (Lh.zero _) (by simp) fun w10 hb10 g10 EQ=>?_
    have hb10:w10.heap[bx]?=some (.cells #[.int .i64 k,.int .i64 o,.bool n,.int .i64 x.kind,.int .i64 x.num,.string x.text,.string q,.string m,.slice na (ks.length+1) ncap,.slice sa ss.length scap] 29 (0,0)):=hb10
    simp (maxSteps:=9999999) only[tt,seval]
    have hbz10:=ChL.at g10 hb9z (by simpa using hzx)
    refine⟨[.int .i64 k,.int .i64 o,.bool n,.int .i64 x.kind,.int .i64 x.num,.string x.text,.string q,.string m,.slice na (ks.length+1) ncap,.slice sa ss.length scap],rfl,bv hb10 (r:=[]) (by simp),?_⟩
    simp (maxSteps:=9999999) only[tt,seval]
    refine⟨by first|rfl|trivial,_,_,_,hbz10,Lh.zero _,by simp,fun u hu=>?_,_,rfl,Stp.go ?_⟩
    ·simp only[List.mem_cons,List.not_mem_nil,or_false] at hu
     rcases hu with rfl|rfl|rfl|rfl|rfl|rfl|rfl|rfl|rfl|rfl<;>rfl
    generalize hw8:World.setRow w10 bz _=w8
    have hw8:World.setRow w10 bz ([.int .i64 k,.int .i64 o,.bool n,.int .i64 x.kind,.int .i64 x.num,.string x.text,.string q,.string m,.slice na (ks.length+1) ncap,.slice sa ss.length scap]:List Value).toArray=w8:=by rw[<-hw8];rfl
    have hbz8:=setRow_heap w10 bz _ ([.int .i64 k,.int .i64 o,.bool n,.int .i64 x.kind,.int .i64 x.num,.string x.text,.string q,.string m,.slice na (ks.length+1) ncap,.slice sa ss.length scap]:List Value).toArray 29 _ hbz10
    have g8:=cX hbz10 ([.int .i64 k,.int .i64 o,.bool n,.int .i64 x.kind,.int .i64 x.num,.string x.text,.string q,.string m,.slice na (ks.length+1) ncap,.slice sa ss.length scap]:List Value).toArray
    rw[hw8] at hbz8 g8
    refine⟨[.int .i64 k,.int .i64 o,.bool n,.int .i64 x.kind,.int .i64 x.num,.string x.text,.string q,.string m,.slice na (ks.length+1) ncap,.slice sa ss.length scap],rfl,bv hbz8 (r:=[]) (by simp),?_⟩
    have S8:=(((hS.keep gWi hbS).keep gF (fun y hy h=>hKS y h hy)).keep g10 hxS).keep g8 hzS
    have sx:bx<w2.heap.size/\bz<w2.heap.size:=⟨(Array.getElem?_eq_some_iff.1 hbx).1,(Array.getElem?_eq_some_iff.1 hbz).1⟩
    have fin':∀y∈F',y∈Fk∨w2.heap.size<=y:=fun y hy=>(hF' y hy).imp id fun h=>h.elim (nG y) aa
    have nx:∀y∈F',y ∉ [bx]:=fun y hy e=>by
     rcases fin' y hy with h|h
     ·exact hxK y h e
     ·have e:y=bx:=by simpa using e
      omega
    have nz:∀y∈F',y ∉ [bz]:=fun y hy e=>by
     rcases fin' y hy with h|h
     ·exact hzK y h e
     ·have e:y=bz:=by simpa using e
      omega
    have K8:=(hO.keep g10 nx).keep g8 nz
    have e2:[D.sl (ks.length+1) (ks.flatMap Expr.row++ec.row)]=[D.sl (ks++[ec]).length ((ks++[ec]).flatMap Expr.row)]:=by simp
    rw[e2] at K8
    exact⟨_,_,_,ct,rfl,row_mk ox oq om K8 S8 (fun y hy h=>(fin' y hy).elim (fun k=>hKS y k h) fun k=>by have:=hlF y (by simp [h]);omega),fun y hy=>(List.mem_append.1 hy).elim (fun h=>(fin' y h).imp (fun h=>by simp [h]) aa) (fun h=>.inl (by simp [h])),ed (b:=bx) (ed (b:=bz) ((((((hgr.mono (by simp)).trans (gWi.mono (by simp))).trans (gF.mono (by intro y hy;simp [hy]))).trans (g10.mono (by simp))).trans (g8.mono (by simp)):ChL (bz::bx::b::(Fk++Fs)) w w8)) (by have:=hg1.size;omega)) aa,(hc9.keep g10 (by simpa using fun h=>hbxb h.symm)).keep g8 (by simpa using fun h=>hbzb h.symm),FB hec⟩
  ·try simp (maxSteps:=9999999) only[tt,Go.Cx.xc,Go.Cx.xl,Go.Cx.xOp,Go.Cx.xCall,Go.Cx.xStoreP,Go.Cx.xPlan,kV,Go.Cv.cg0,Go.Cv.cg1,Go.Cv.cOp,Go.Cv.cLoad,Go.Cv.cLoadA,Go.Cv.cStore,Go.Cv.cAlloc,Go.Cv.cBox,Go.Cv.cEnd,Go.Cv.cRet,Go.Cv.argsV,Go.Cx.argsW,Go.Cv.regsV,Go.Vc.oneCell,Go.Vc.guardSlot,Nat.add_zero,seval,true_implies,not_true_eq_false,false_implies,and_true,true_and,not_false_eq_true,forall_const,imp_self,implies_true]
   refine⟨_,bP (ChL.at gW hbx (by simpa using hbxb)) (j:=9) rfl,?_⟩
   simp (maxSteps:=9999999) only[seval]
   refine⟨rfl,?_⟩
   simp (maxSteps:=9999999) only[tt,seval,Go.Cx.xBuildS,Go.Cx.valsV,Go.Cx.cellsL,Go.Dv.ev,reduceIte]
   refine⟨ac,fun u hu=>?_,fun bi wi hbi hwi=>?_⟩
   ·rw[List.mem_singleton.1 hu];rfl
   obtain⟨hbi',gi⟩:=dt hbi hwi
   have gWi:=gW.trans (gi.chl _)
   have hSi:=hS.keep gWi hbS
   refine wy (e:=71) (sz:=6) (bytes:=112) (eu:=71) ac ac ac ae hSi (aQ Query.row_len ss) (Fv wi) (Query.row_len _) (by simp) ⟨rfl,.inr ⟨bi,0,rfl,fun j v hj=>bv (cs:=HT) hbi' (r:=[]) (by simp) j v hj⟩⟩ (fun u hu=>?_) ⟨?_,?_⟩ fun v w9 F' hO hF' gF=>?_
   ·simp only[HT,List.mem_cons,List.not_mem_nil,or_false] at hu
    rcases hu with rfl|rfl|rfl|rfl|rfl|rfl<;>rfl
   ·have:=jo ss
    rw[aZ] at hsE
    simp only[maxLen]
    omega
   ·have:=jo ss
    rw[aZ] at hsE
    omega
   obtain⟨v',e9,⟨na,ncap,rfl,_⟩,_⟩:=hO.one
   injection e9 with e9
   subst e9
   have fsb:Fs ⊆ Fk++Fs:=fun y hy=>by simp [hy]
   have bF:∀y,y ∉ Fk++Fs->y ∉ Fs:=fun y h hy=>h (fsb hy)
   have hb9x:=ChL.at gF (ChL.at gWi hbx (by simpa using hbxb)) (bF _ hbx')
   have hb9z:=ChL.at gF (ChL.at gWi hbz (by simpa using hbzb)) (bF _ hbz')
   have hc9:=(hcs.keep (gi.chl []) (by simp)).keep gF (bF _ hbF)
   simp (maxSteps:=9999999) only[tt,seval]
   refine mA hb9x (Lh.zero _) (by simp) fun w10 hb10 g10 EQ=>?_
   have hb10:w10.heap[bx]?=some (.cells #[.int .i64 k,.int .i64 o,.bool n,.int .i64 x.kind,.int .i64 x.num,.string x.text,.string q,.string m,.slice ka ks.length kcap,.slice na (ss.length+1) ncap] 29 (0,0)):=hb10
   simp (maxSteps:=9999999) only[tt,seval]
   have hbz10:=ChL.at g10 hb9z (by simpa using hzx)
   refine⟨[.int .i64 k,.int .i64 o,.bool n,.int .i64 x.kind,.int .i64 x.num,.string x.text,.string q,.string m,.slice ka ks.length kcap,.slice na (ss.length+1) ncap],rfl,bv hb10 (r:=[]) (by simp),?_⟩
   simp (maxSteps:=9999999) only[tt,seval]
   refine⟨by first|rfl|trivial,_,_,_,hbz10,Lh.zero _,by simp,fun u hu=>?_,_,rfl,Stp.go ?_⟩
   ·simp only[List.mem_cons,List.not_mem_nil,or_false] at hu
    rcases hu with rfl|rfl|rfl|rfl|rfl|rfl|rfl|rfl|rfl|rfl<;>rfl
   generalize hw8:World.setRow w10 bz _=w8
   have hw8:World.setRow w10 bz ([.int .i64 k,.int .i64 o,.bool n,.int .i64 x.kind,.int .i64 x.num,.string x.text,.string q,.string m,.slice ka ks.length kcap,.slice na (ss.length+1) ncap]:List Value).toArray=w8:=by rw[<-hw8];rfl
   have hbz8:=setRow_heap w10 bz _ ([.int .i64 k,.int .i64 o,.bool n,.int .i64 x.kind,.int .i64 x.num,.string x.text,.string q,.string m,.slice ka ks.length kcap,.slice na (ss.length+1) ncap]:List Value).toArray 29 _ hbz10
   have g8:=cX hbz10 ([.int .i64 k,.int .i64 o,.bool n,.int .i64 x.kind,.int .i64 x.num,.string x.text,.string q,.string m,.slice ka ks.length kcap,.slice na (ss.length+1) ncap]:List Value).toArray
   rw[hw8] at hbz8 g8
   refine⟨[.int .i64 k,.int .i64 o,.bool n,.int .i64 x.kind,.int .i64 x.num,.string x.text,.string q,.string m,.slice ka ks.length kcap,.slice na (ss.length+1) ncap],rfl,bv hbz8 (r:=[]) (by simp),?_⟩
   have K8:=(((hK.keep gWi hbK).keep gF hKS).keep g10 hxK).keep g8 hzK
   have si:w2.heap.size<=wi.heap.size:=gWi.size
   have sx:bx<w2.heap.size/\bz<w2.heap.size:=⟨(Array.getElem?_eq_some_iff.1 hbx).1,(Array.getElem?_eq_some_iff.1 hbz).1⟩
   have fin':∀y∈F',y∈Fs∨w2.heap.size<=y:=fun y hy=>(hF' y hy).imp id fun h=>h.elim (fun h=>by cases h) aa
   have nx:∀y∈F',y ∉ [bx]:=fun y hy e=>by
    rcases fin' y hy with h|h
    ·exact hxS y h e
    ·have e:y=bx:=by simpa using e
     omega
   have nz:∀y∈F',y ∉ [bz]:=fun y hy e=>by
    rcases fin' y hy with h|h
    ·exact hzS y h e
    ·have e:y=bz:=by simpa using e
     omega
   have S8:=(hO.keep g10 nx).keep g8 nz
   have e2:[D.sl (ss.length+1) (ss.flatMap Query.row++q0.row)]=[D.sl (ss++[q0]).length ((ss++[q0]).flatMap Query.row)]:=by simp
   rw[e2] at S8
   have s0:w.heap.size<=w2.heap.size:=hgr.size
   exact⟨_,_,_,cs,rfl,row_mk ox oq om K8 S8 (fun y hy h=>(fin' y h).elim (hKS y hy) fun h=>by have:=hlF y (by simp [hy]);omega),fun y hy=>(List.mem_append.1 hy).elim (fun h=>.inl (by simp [h])) (fun h=>(fin' y h).imp (fun h=>by simp [h]) aa),ed (b:=bx) (ed (b:=bz) ((((((hgr.mono (by simp)).trans (gWi.mono (by simp))).trans (gF.mono (by intro y hy;simp [hy]))).trans (g10.mono (by simp))).trans (g8.mono (by simp)):ChL (bz::bx::b::(Fk++Fs)) w w8)) (by have:=hg1.size;omega)) aa,(hc9.keep g10 (by simpa using fun h=>hbxb h.symm)).keep g8 (by simpa using fun h=>hbzb h.symm),Fy⟩
  all_goals
   obtain⟨k',o',n',x',q',m',wt,ct,gX,g9,hct,⟨ox',oq',om'⟩,hbn,hb9⟩:=T9
   have hbz9:=ChL.at g9 (ChL.at gX hbz (by simpa using hbzb)) (by simpa using hzx)
   refine⟨[.int .i64 k',.int .i64 o',.bool n',.int .i64 x'.kind,.int .i64 x'.num,.string x'.text,.string q',.string m',.slice ka ks.length kcap,.slice sa ss.length scap],rfl,bv hb9 (r:=[]) (by simp),?_⟩
   simp (maxSteps:=9999999) only[tt,seval]
   refine⟨by first|rfl|trivial,_,_,_,hbz9,Lh.zero _,by simp,fun u hu=>?_,_,rfl,Stp.go ?_⟩
   ·simp only[List.mem_cons,List.not_mem_nil,or_false] at hu
    rcases hu with rfl|rfl|rfl|rfl|rfl|rfl|rfl|rfl|rfl|rfl<;>rfl
   generalize hw8:World.setRow w9 bz _=w8
   have hw8:World.setRow w9 bz ([.int .i64 k',.int .i64 o',.bool n',.int .i64 x'.kind,.int .i64 x'.num,.string x'.text,.string q',.string m',.slice ka ks.length kcap,.slice sa ss.length scap]:List Value).toArray=w8:=by rw[<-hw8];rfl
   have hbz8:=setRow_heap w9 bz _ ([.int .i64 k',.int .i64 o',.bool n',.int .i64 x'.kind,.int .i64 x'.num,.string x'.text,.string q',.string m',.slice ka ks.length kcap,.slice sa ss.length scap]:List Value).toArray 29 _ hbz9
   have g8:=cX hbz9 ([.int .i64 k',.int .i64 o',.bool n',.int .i64 x'.kind,.int .i64 x'.num,.string x'.text,.string q',.string m',.slice ka ks.length kcap,.slice sa ss.length scap]:List Value).toArray
   rw[hw8] at hbz8 g8
   refine⟨[.int .i64 k',.int .i64 o',.bool n',.int .i64 x'.kind,.int .i64 x'.num,.string x'.text,.string q',.string m',.slice ka ks.length kcap,.slice sa ss.length scap],rfl,bv hbz8 (r:=[]) (by simp),?_⟩
   have K8:=((hK.keep gX hbK).keep g9 hxK).keep g8 hzK
   have S8:=((hS.keep gX hbS).keep g9 hxS).keep g8 hzS
   exact⟨_,_,_,ct,rfl,row_mk ox' oq' om' K8 S8 hKS,fun y hy=>.inl hy,ed (b:=bx) (ed (b:=bz) (((((hgr.mono (by simp)).trans (gX.mono (by simp))).trans (g9.mono (by simp))).trans (g8.mono (by simp)):ChL (bz::bx::b::(Fk++Fs)) w w8)) (by have:=hg1.size;omega)) aa,(hct.keep g9 (by simpa using fun h=>hbxb h.symm)).keep g8 (by simpa using fun h=>hbzb h.symm),hbn⟩
end
theorem fj {w:World} {b o:Nat} {v:Value} (h:w.cell? ⟨b,o,none⟩=some v):∃cs ty lh,w.heap[b]?=some (.cells cs ty lh)/\cs[o]?=some v:=by
 unfold World.cell? at h
 cases hb:w.heap[b]? with
 |none=>simp [hb] at h
 |some ob=>
  cases ob<;>simp [hb] at h
  exact⟨_,_,_,rfl,by first|exact h|simpa using h⟩
theorem Bo {w:World} {bs:List Int} {v:Value} {G:List Nat} (h:CellF w (.sl bs.length (bs.flatMap iY)) v G) :
 ∃I:CodeOut,@Out.code I.toOut=v/\∀own:Nat->Prop,@GlW noOut w own->(∀x∈G,¬own x) -> @GlW I.toOut w own:=by
 obtain⟨a,cap,rfl,h1,h2,h3,hc⟩:=h
 have hlen:(bs.flatMap iY).length=bs.length:=by rw[aQ pV,Nat.mul_one]
 rcases hc with⟨e,rfl⟩|⟨hne,b,o,F,rfl,hr,rfl⟩
 ·have h0:bs.length=0:=by rw[<-hlen,e];rfl
  refine⟨{ vars:=[],code:=.slice a bs.length cap,ok:=⟨a,bs.length,cap,rfl,Nat.le_trans h1 h2,.inl h0⟩ },rfl,fun own hg _ t ht=>?_⟩
  exact hg t ht
 ·obtain⟨vs,hcells,hv⟩:=hr.vals
  have hvl:vs.length=bs.length:=by rw[hv.length,hlen]
  have hpos:0<bs.length:=by
   rcases Nat.eq_zero_or_pos bs.length with e|e
   ·exact absurd (List.eq_nil_of_length_eq_zero (hlen.trans e)) hne
   ·exact e
  obtain⟨cs,ty,lh,hb,_⟩:=fj (hcells 0 (vs[0]'(by omega)) (by simp))
  refine⟨{ vars:=[(b,fun c=>c=cs)],code:=.slice (some ⟨b,o,none⟩) bs.length cap,ok:=⟨some ⟨b,o,none⟩,bs.length,cap,rfl,Nat.le_trans h1 h2,.inr ⟨b,o,_,rfl,List.mem_singleton.2 rfl,fun c hc j hj=>?_⟩⟩ },rfl,fun own hg hn t ht=>?_⟩
  ·subst hc
   have hj':j<vs.length:=by omega
   have hcj:=hcells j vs[j] (by rw[aC hj'])
   rw[cell_of_row w b (o+j) c ty lh hb] at hcj
   rw[hcj]
   have byte:∀(bs:List Int) (vs:List Value) (F:List Nat),ValsF w (bs.flatMap iY) vs F->∀u∈vs,∃z:Int,u = .int .u8 z:=fun bs=>by
    induction bs with
    |nil=>
     intro vs F h u hu
     cases vs with
     |nil=>cases hu
     |cons _ _=>exact h.elim
    |cons x r ih=>
     intro vs F h u hu
     cases vs with
     |nil=>exact h.elim
     |cons y t=>
      obtain⟨F1,F2,h1,h2,_⟩:=h
      rcases List.mem_cons.1 hu with rfl|hu
      ·exact⟨x,h1.1⟩
      ·exact ih t F2 h2 u hu
   obtain⟨z,hz⟩:=byte bs vs F hv vs[j] (aH hj')
   exact⟨z,by rw[hz]⟩
  ·rcases List.mem_append.1 ht with ht|ht
   ·exact hg t (List.mem_append_left _ ht)
   ·have ht:t∈[(b,fun c=>c=cs)]:=ht
    rw[List.mem_singleton.1 ht]
    exact⟨hn b (by simp),cs,ty,lh,hb,rfl⟩
theorem zj {w:World} {bs:List Int} {v:Value} {G:List Nat} (h:CellF w (.sl bs.length (bs.flatMap iY)) v G) (hg:GlW w (fun _=>False)) :
 Go.Vc.callable Tryz.prog 47=true/\Calls Tryz.prog 47 #[v] w fun e w'=>∃r,e = .returned r/\∃b,r = .pointer (some ⟨b,0,none⟩)/\Gr w w'/\w.heap.size<=b/\∃(I:CodeOut) (c:Cur),@CurAt I w' b c /\ @GlW I.toOut w' (fun x=>x=b):=by
 obtain⟨h1,h2⟩:=D0 bs
 refine⟨h1,(h2 w (fun _=>none) (fun _=>True) [v] ⟨⟨G,h,fun _ _=>trivial,fun _ e=>by cases e⟩,trivial⟩ hg).mono ?_⟩
 rintro e w' ⟨b,cs,xs,ty,lh,rfl,⟨c,rfl,hi⟩,_,hb,hh,hl,hr,hk,hwd,ho1,ho2,ho3⟩
 have gr:Gr w w':=⟨hwd,hk,ho1,ho2,ho3⟩
 refine⟨_,rfl,b,rfl,gr,hb,?_⟩
 have hr:=hr (fun _=>none)
 have hxs:∃u G,xs = #[u,.int .i64 c.i,.int .i64 c.h]/\CellF w' (.sl c.b.length (c.b.flatMap iY)) u G/\(∀x∈G,x≠b):=by
  have e:xs=xs.toList.toArray:=by simp
  rw[e]
  generalize xs.toList=l at hr
  match l,hr with
  | [u,_,_],⟨⟨G,h1,h2,_⟩,⟨rfl,_⟩,⟨rfl,_⟩,_⟩=>exact⟨u,G,rfl,h1,fun x hx=>(h2 x hx).1⟩
 obtain⟨u,G',rfl,hc,hn⟩:=hxs
 have hg':GlW w' (fun x=>x=b):=by
  refine GlW.mono (own:=fun _=>False) hg (fun y hy _=>hk y hy) fun y e hy=>?_
  omega
 obtain⟨I,hI,hgl⟩:=Bo hc
 refine⟨I,⟨c.i,c.h⟩,⟨hi,ty,lh,by rw[hI];exact hh,by simpa using hl,?_⟩,hgl _ hg' hn⟩
 rw[hI]
 obtain⟨a,cap,rfl,_⟩:=hc
 trivial
theorem Bp [CodeOut] (ok0:Nat->Prop) {g:FuncId} {c:Cur} {Pr:S->Prop} (h:Cl Tryz.prog g [.c (.p 9000 0)] [c.cs] (pW Pr)) {w:World} {b:Nat} (hc:CurAt w b c) (hg:GlW w (fun x=>x=b)) :
 Go.Vc.callable Tryz.prog g=true/\Calls Tryz.prog g #[.pointer (some ⟨b,0,none⟩)] w fun e w'=>∃v,e = .returned v/\∃r c',Pr r/\CurAt w' b c'/\ChL [b] w w'/\∃(β:Nat->Option Nat) (ok:Nat->Prop),RelS Tryz.prog w' β ok (expS 9700 r) v/\∀x,ok x->x<w.heap.size->ok0 x∨x=b:=by
 obtain⟨h0,ty,lh,h1,h2,h3⟩:=hc
 obtain⟨k1,k2⟩:=Cl.at2 (ok0:=ok0) (us:=[Out.code,.int .i64 c.i,.int .i64 c.h]) h (fun r os ⟨c',_,e,_⟩=>⟨[Out.code,.int .i64 c'.i,.int .i64 c'.h],e⟩) rfl (ty:=ty) (lh:=lh) h1 (by simpa using h2) (fun u hu=>by
  simp only[List.mem_cons,List.not_mem_nil,or_false] at hu
  rcases hu with rfl|rfl|rfl
  ·exact h3
  ·trivial
  ·trivial) (vs:=[]) (fun _ _ _=>trivial) hg
 refine⟨k1,k2.mono ?_⟩
 rintro e w' ⟨v,rfl,r,us',⟨c',hr,e,hi⟩,g,⟨ty',lh',hb,hl,hok⟩,_,hres⟩
 have e:us'=[Out.code,.int .i64 c'.i,.int .i64 c'.h]:=by
  have:us'.map C.v=[Out.code,.int .i64 c'.i,.int .i64 c'.h].map C.v:=by injection e with e
  have unm:∀l:List Value,(l.map C.v).map (fun c:C=>match c with | .v u=>u|_=>.nilFunc)=l:=fun l=>by
   induction l with
   |nil=>rfl
   |cons a r ih=>rw[List.map_cons,List.map_cons,ih]
  have:=congrArg (List.map (fun c:C=>match c with | .v u=>u|_=>.nilFunc)) this
  rwa[unm,unm] at this
 subst e
 exact⟨v,rfl,r,c',hr,⟨hi,ty',lh',hb,by simpa using hl,h3⟩,g,hres⟩
def FC (w:World) (v:Value) (w':World):Prop:=∃(e:Expr) (vs:List Value) (G:List Nat),v = .agg vs.toArray/\ValsF w' e.row vs G/\(∀x∈G,w.heap.size<=x)/\Gr w w'/\Rg e/\szExpr e<=1048576
set_option maxHeartbeats 4000000 in
theorem wq {w:World} {bs:List Int} {v:Value} {G:List Nat} (h:CellF w (.sl bs.length (bs.flatMap iY)) v G) (hg:GlW w (fun _=>False)) :
 Go.Vc.callable Tryz.prog 34=true/\Calls Tryz.prog 34 #[v] w fun e w'=>∃r,e = .returned r/\FC w r w':=by
 refine⟨ac,?_⟩
 refine @ft _ w 34 Tryz.f34 _ [v] _ Tryz.func34 rfl (Nat.le_of_ble_eq_true rfl) ?_
 simp (maxSteps:=9999999) only[tt,Go.Cx.xc,Go.Cx.xl,Go.Cx.xOp,Go.Cx.xCall,Go.Cx.xStoreP,Go.Cv.cg0,Go.Cv.cOp,Go.Cv.cLoadA,Go.Cv.cStore,Go.Cv.cAlloc,Go.Cx.argsW,Go.Cv.regsV,Go.Vc.oneCell,seval,Tryz.f34]
 intro bz w1 hbz0 hw1
 obtain⟨hbz,hg1⟩:=dt hbz0 hw1
 obtain⟨n1,n2⟩:=zj (h.grow hg1.grow) (DS hg1 hg)
 refine⟨n1,_,n2,?_⟩
 rintro _ w2 ⟨b,rfl,g2,hb2,I,c,hc,hgI⟩
 letI:=I
 refine Stp.go ?_
 simp (maxSteps:=9999999) only[tt,Go.Cx.argsW,seval]
 obtain⟨cc1,cc2⟩:=dM (bu c hc.1 16) rfl hc (vs:=[.int .i64 16]) (fun β ok h=>⟨⟨rfl,trivial⟩,trivial⟩) hgI
 refine⟨cc1,_,cc2,?_⟩
 rintro v2 w3 ⟨r,c3,⟨bo,rfl⟩,hc3,g3,hres⟩
 obtain rfl:=hres.val
 refine Stp.go ?_
 simp (maxSteps:=9999999) only[tt,Go.Cx.argsW,seval]
 have hbzb:bz≠b:=by
  have:=(Array.getElem?_eq_some_iff.1 hbz).1
  omega
 have hwb:w.heap.size<=b:=Nat.le_trans hg1.size hb2
 refine ab (fun hb0=>?_) (fun hb0=>?_)
 ·obtain⟨cc1,cc2⟩:=Bp (fun x=>w.heap.size<=x/\x≠bz) (Bm c3 hc3.1) hc3 (db g3 hgI (by simp))
  refine⟨cc1,_,cc2,?_⟩
  rintro v4 w4 ⟨r,c4,⟨e4,rfl,hrg,hsz⟩,hc4,g4,β,ok,hrel,hok⟩
  simp only[expS,mI] at hrel
  obtain⟨vs,rfl,hrel⟩:=hrel
  obtain⟨G4,hv4,hok4⟩:=jr hrel
  have hlen:vs.length=10:=by rw[hv4.length,aK]
  have hbz3:=ChL.at g3 (ChL.at (g2.chl []) hbz (by simp)) (by simpa using hbzb)
  have hbz4:=ChL.at g4 hbz3 (by simpa using hbzb)
  have nbz:bz ∉ G4:=fun h=>(hok bz (hok4 bz h) (Array.getElem?_eq_some_iff.1 hbz3).1).elim (fun h=>h.2 rfl) hbzb
  refine Stp.go ?_
  simp (maxSteps:=9999999) only[tt,seval]
  refine⟨by rw[List.size_toArray,hlen],_,_,_,hbz4,Lh.zero _,by simp [hlen],fun u hu=>by rw[Go.Vc.oneCell_eq];exact hv4.oneCell u (by simpa using hu),_,rfl,Stp.go ?_⟩
  generalize hw5:World.setRow w4 bz _=w5
  have hw5:World.setRow w4 bz vs.toArray=w5:=by rw[<-hw5];congr 1;simp [hlen]
  have hb5:=setRow_heap w4 bz _ vs.toArray 29 _ hbz4
  have g5:=cX hbz4 vs.toArray
  rw[hw5] at hb5 g5
  refine⟨vs,hlen,bv hb5 (r:=[]) (by simp),e4,vs,G4,rfl,hv4.chg g5.chg (fun y hy e=>nbz ((by simpa using e:y=bz)▸hy)),fun x hx=>?_,?_,hrg,aa⟩
  ·by_cases hlt:x<w3.heap.size
   ·exact (hok x (hok4 x hx) hlt).elim (fun h=>h.1) (fun h=>by omega)
   ·have:=hg1.size;have:=g2.size;have:=g3.size;omega
  have gg:=ed (b:=bz) (ed (b:=b) (((((hg1.chl [b,bz]).trans (g2.chl _)).trans (g3.mono (by simp))).trans (g4.mono (by simp))).trans (g5.mono (by simp)):ChL [b,bz] w w5) hwb) aa
  exact⟨gg.size,fun x hx=>gg.keep x hx (by simp),gg.chg.os,gg.chg.tape,gg.chg.output⟩
 ·try simp (maxSteps:=9999999) only[tt,Go.Cx.xc,Go.Cx.xl,Go.Cx.xOp,Go.Cx.xCall,Go.Cx.xStoreP,Go.Cx.xPlan,kV,Go.Cv.cg0,Go.Cv.cg1,Go.Cv.cOp,Go.Cv.cLoad,Go.Cv.cLoadA,Go.Cv.cStore,Go.Cv.cAlloc,Go.Cv.cBox,Go.Cv.cEnd,Go.Cv.cRet,Go.Cv.argsV,Go.Cx.argsW,Go.Cv.regsV,Go.Vc.oneCell,Go.Vc.guardSlot,Nat.add_zero,seval,true_implies,not_true_eq_false,false_implies,and_true,true_and,not_false_eq_true,forall_const,imp_self,implies_true]
  have hbG:b ∉ G:=fun hh=>by have:=Go.Cv.vis_lt (CellF.vis _ h b hh);omega
  have hv3:=((h.grow hg1.grow).grow g2.grow).chg g3.chg (fun y hy e=>hbG ((by simpa using e:y=b)▸hy))
  have gl3:=db g3 hgI (by simp)
  obtain⟨s1,s2⟩:=Cl.at (zc bs 4 ae) rfl (vs:=[v,.int .i64 4]) ⟨⟨G,hv3,fun _ _=>trivial,fun _ e=>by cases e⟩,⟨rfl,trivial⟩,trivial⟩ (gl3.mono (fun _ _ _=>rfl) fun _ h _=>h.elim)
  refine⟨s1,_,s2,?_⟩
  rintro v4 w4 ⟨r,⟨mx,rfl,hm0,hm1⟩,g4,hres⟩
  obtain rfl:=hres.val
  refine Stp.go ?_
  simp (maxSteps:=9999999) only[tt,Go.Cx.argsW,seval]
  have hc4:=hc3.keep (g4.chl []) (by simp)
  have gl4:=db (g4.chl []) gl3 (by simp)
  obtain⟨cc1,cc2⟩:=dM ((bf c3 hc3.1 mx).mono fun r os ⟨x,c',h1,h2,h3,h4⟩=>(⟨c',⟨x,h1,h3⟩,h2,h4⟩:pW (fun r=>∃x:Int,r=vi x/\0<=x/\(0<mx->x<mx)) r os)) rfl hc4 (vs:=[.int .i64 mx]) (fun β ok h=>⟨⟨rfl,trivial⟩,trivial⟩) gl4
  refine⟨cc1,_,cc2,?_⟩
  rintro v5 w5 ⟨r,c5,⟨y,rfl,hy0,hy1⟩,hc5,g5,hres⟩
  obtain rfl:=hres.val
  obtain⟨d,rfl⟩:∃d:Nat,y=d:=⟨y.toNat,aa⟩
  have hd:d<=4:=by have:=hy1 aa;omega
  refine Stp.go ?_
  simp (maxSteps:=9999999) only[tt,Go.Cx.argsW,seval]
  obtain⟨cc1,cc2⟩:=dM ((zh d aa).1 c5 hc5.1) rfl hc5 (vs:=[.int .i64 d]) (fun β ok h=>⟨⟨rfl,trivial⟩,trivial⟩) (db g5 gl4 (by simp))
  refine⟨cc1,_,cc2,?_⟩
  rintro v6 w6 ⟨r,c6,⟨e6,Ek,Es,rfl,he6⟩,hc6,g6,hres⟩
  obtain⟨v6s,G6,rfl,hv6,hnew,hwl⟩:=hres.tdw (og e6.row [Ek,Es] (by obtain⟨ek,eo,en,ev,eq,em,eks,ess⟩:=e6;rw[ai];rfl))
  have hx6:OwnT w6 e6.row v6s G6:=⟨hv6,hnew.nodup,hnew.own,hwl⟩
  have hl6:v6s.length=10:=by rw[hv6.length,aK]
  refine Stp.go ?_
  simp (maxSteps:=9999999) only[tt,seval]
  intro be w7 hbe0 hw7
  obtain⟨hbe,g7⟩:=dt hbe0 hw7
  refine⟨by rw[List.size_toArray,hl6],_,_,_,hbe,Lh.zero _,by simp [hl6],fun u hu=>by rw[Go.Vc.oneCell_eq];exact hv6.oneCell u (by simpa using hu),_,rfl,Stp.go ?_⟩
  generalize hw8:World.setRow w7 be _=w8
  have hw8:World.setRow w7 be v6s.toArray=w8:=by rw[<-hw8];congr 1;simp [hl6]
  have hbe8:=setRow_heap w7 be _ v6s.toArray 29 _ hbe
  have g8:=cX hbe v6s.toArray
  rw[hw8] at hbe8 g8
  simp (maxSteps:=9999999) only[tt,Go.Cx.argsW,seval]
  have hwz:be=w6.heap.size:=by omega
  have g68:ChL [] w6 w8:=ed (b:=be) ((g7.chl [be]).trans g8) aa
  have hc8:=hc6.keep g68 (by simp)
  have hx8:=hx6.keep g68 (by simp)
  have gl6:=db g6 (db g5 gl4 (by simp)) (by simp)
  have gl8:=db g68 gl6 (by simp)
  have hb5:b<w5.heap.size:=by obtain⟨_,_,_,h,_⟩:=hc5;exact (Array.getElem?_eq_some_iff.1 h).1
  have s56:=g6.size
  have s68:=g68.size
  have hbG6:b ∉ G6:=fun h=>by have:=hnew.new b h;omega
  have hbeb:be≠b:=by omega
  have hbeG6:be ∉ G6:=fun h=>by have:=Go.Cv.vis_lt (hx6.own.vis be h);omega
  have hbz6:w6.heap[bz]?=w1.heap[bz]?:=by
   have h3:=ChL.at g3 (ChL.at (g2.chl []) hbz (by simp)) (by simpa using hbzb)
   rw[hbz];exact ChL.at g6 (ChL.at g5 (ChL.at (g4.chl []) h3 (by simp)) (by simpa using hbzb)) (by simpa using hbzb)
  have hbz6:=hbz6.trans hbz
  have hbzlt:=(Array.getElem?_eq_some_iff.1 hbz6).1
  have hbzbe:bz≠be:=by omega
  have hbzG6:bz ∉ G6:=fun h=>by have:=hnew.new bz h;have:=(Array.getElem?_eq_some_iff.1 (ChL.at g5 (ChL.at (g4.chl []) (ChL.at g3 (ChL.at (g2.chl []) hbz (by simp)) (by simpa using hbzb)) (by simp)) (by simpa using hbzb))).1;omega
  obtain⟨cc1,cc2⟩:=dM (bu c6 hc6.1 4) rfl hc8 (vs:=[.int .i64 4]) (fun β ok h=>⟨⟨rfl,trivial⟩,trivial⟩) gl8
  refine⟨cc1,_,cc2,?_⟩
  rintro v9 w9 ⟨r,c9,⟨b9,rfl⟩,hc9,g9,hres⟩
  obtain rfl:=hres.val
  refine Stp.go ?_
  simp (maxSteps:=9999999) only[tt,Go.Cx.argsW,seval]
  have hbe9:=ChL.at g9 hbe8 (by simpa using hbeb)
  have hx9:=hx8.keep g9 (fun x hx e=>hbG6 ((by simpa using e:x=b)▸hx))
  have hbz9:=ChL.at g9 (ChL.at g68 hbz6 (by simp)) (by simpa using hbzb)
  have gl9:=db g9 gl8 (by simp)
  have hsz6:szExpr e6<=26000:=by have:=he6.sz;have:=D1 hd;have:dN 4=121:=rfl;omega
  have gW:∀(F:List Nat) (u v:World),ChL F u v->(∀y∈F,y∈[bz,be,b]++G6)->ChL ([bz,be,b]++G6) u v:=fun _ _ _ h hs=>h.mono hs
  have gA:ChL ([bz,be,b]++G6) w w9:=(((((((hg1.chl _).trans (g2.chl _)).trans (gW _ _ _ g3 (by simp))).trans (g4.chl _)).trans (gW _ _ _ g5 (by simp))).trans (gW _ _ _ g6 (by simp))).trans (gW _ _ _ g68 (by simp))).trans (gW _ _ _ g9 (by simp))
  have hG6n:∀x∈G6,w.heap.size<=x:=fun x hx=>by
   have:=hnew.new x hx;have:=hg1.size;have:=g2.size;have:=g3.size;have:=g4.size;have:=g5.size;omega
  have fin:∀(w':World),ChL ([bz,be,b]++G6) w w'->Gr w w':=fun w' g=>by
   have old:∀x,x<w.heap.size->x ∉ [bz,be,b]++G6:=fun x hx hm=>by
    have:w.heap.size<=bz:=by omega
    have:w.heap.size<=be:=by have:=hg1.size;have:=g2.size;have:=g3.size;have:=g4.size;have:=g5.size;omega
    simp only[lc,List.mem_cons] at hm
    rcases hm with rfl|rfl|rfl|hm
    ·omega
    ·omega
    ·omega
    ·have:=hG6n x hm;omega
   exact⟨g.size,fun x hx=>g.keep x hx (old x hx),g.chg.os,g.chg.tape,g.chg.output⟩
  refine ab (fun hb0=>?_) (fun hb0=>?_)
  ·try simp (maxSteps:=9999999) only[tt,Go.Cx.xc,Go.Cx.xl,Go.Cx.xOp,Go.Cx.xCall,Go.Cx.xStoreP,Go.Cx.xPlan,kV,Go.Cv.cg0,Go.Cv.cg1,Go.Cv.cOp,Go.Cv.cLoad,Go.Cv.cLoadA,Go.Cv.cStore,Go.Cv.cAlloc,Go.Cv.cBox,Go.Cv.cEnd,Go.Cv.cRet,Go.Cv.argsV,Go.Cx.argsW,Go.Cv.regsV,Go.Vc.oneCell,Go.Vc.guardSlot,Nat.add_zero,seval,true_implies,not_true_eq_false,false_implies,and_true,true_and,not_false_eq_true,forall_const,imp_self,implies_true]
   refine⟨v6s,hl6,bv hbe9 (r:=[]) (by simp),?_⟩
   have g59:ChL [b] w5 w9:=(g6.trans (g68.mono (by simp))).trans g9
   have glB:GlW w9 (fun x=>x=b∨x∈G6):=(db g5 gl4 (by simp)).mono (fun x hx hn=>g59.keep x hx (by simpa using hn)) fun x hx hlt=>hx.elim id fun h=>by have:=hnew.new x h;omega
   obtain⟨n1,n2⟩:=wn _ e6 (Nat.lt_succ_self _) aa w9 b c9 v6s G6 hx9 hbG6 hc9 glB
   refine⟨n1,_,n2,?_⟩
   rintro v10 w10 ⟨EQ,v10s,G10,G5,rfl,hT10,hF10,g10,hc10,hbn⟩
   refine Stp.go ?_
   simp (maxSteps:=9999999) only[tt,seval]
   have hl10:v10s.length=10:=by rw[hT10.val.length,aK]
   have hbeF:be ∉ b::G6:=by simp only[List.mem_cons,not_or];exact⟨hbeb,hbeG6⟩
   have hbzF:bz ∉ b::G6:=by simp only[List.mem_cons,not_or];exact⟨hbzb,hbzG6⟩
   have hbe10:=ChL.at g10 hbe9 hbeF
   have hbz10:=ChL.at g10 hbz9 hbzF
   refine⟨by rw[List.size_toArray,hl10],_,_,_,hbe10,Lh.zero _,by simp [hl10,hl6],fun u hu=>by rw[Go.Vc.oneCell_eq];exact hT10.val.oneCell u (by simpa using hu),_,rfl,Stp.go ?_⟩
   generalize hw11:World.setRow w10 be _=w11
   have hw11:World.setRow w10 be v10s.toArray=w11:=by rw[<-hw11];congr 1;simp [hl10,hl6]
   have hbe11:=setRow_heap w10 be _ v10s.toArray 29 _ hbe10
   have g11:=cX hbe10 v10s.toArray
   rw[hw11] at hbe11 g11
   simp (maxSteps:=9999999) only[tt,seval]
   have hbz11:=ChL.at g11 hbz10 (by simpa using hbzbe)
   have lt9:w9.heap.size<=w9.heap.size:=Nat.le_refl _
   have hbe9lt:=(Array.getElem?_eq_some_iff.1 hbe9).1
   have hbz9lt:=(Array.getElem?_eq_some_iff.1 hbz9).1
   have nbe10:be ∉ G10:=fun h=>(hF10 be h).elim hbeG6 aa
   have nbz10:bz ∉ G10:=fun h=>(hF10 bz h).elim hbzG6 aa
   have hv11:ValsF w11 EQ.row v10s G10:=hT10.val.chg g11.chg (fun y hy e=>nbe10 ((by simpa using e:y=be)▸hy))
   have gB:=(gA.trans (gW _ _ _ g10 (by simp;intro y hy;simp [hy]))).trans (gW _ _ _ g11 (by simp))
   have s9:=gA.size
   refine⟨v10s,hl10,bv hbe11 (r:=[]) (by simp),by rw[List.size_toArray,hl10],_,_,_,hbz11,Lh.zero _,by simp [hl10],fun u hu=>by rw[Go.Vc.oneCell_eq];exact hv11.oneCell u (by simpa using hu),_,rfl,Stp.go ?_⟩
   generalize hwz:World.setRow w11 bz _=wz
   have hwz:World.setRow w11 bz (v10s).toArray=wz:=by rw[<-hwz];congr 1;simp [hl10]
   have hbzz:=setRow_heap w11 bz _ (v10s).toArray 29 _ hbz11
   have gz:=cX hbz11 (v10s).toArray
   rw[hwz] at hbzz gz
   exact⟨v10s,hl10,bv hbzz (r:=[]) (by simp),EQ,v10s,G10,rfl,hv11.chg gz.chg (fun y hy e=>nbz10 ((by simpa using e:y=bz)▸hy)),fun x hx=>(hF10 x hx).elim (hG6n x) aa,fin _ (gB.trans (gz.mono (by simp))),hbn.2 he6.rg,(by have:=hbn.1;omega)⟩
  ·try simp (maxSteps:=9999999) only[tt,Go.Cx.xc,Go.Cx.xl,Go.Cx.xOp,Go.Cx.xCall,Go.Cx.xStoreP,Go.Cx.xPlan,kV,Go.Cv.cg0,Go.Cv.cg1,Go.Cv.cOp,Go.Cv.cLoad,Go.Cv.cLoadA,Go.Cv.cStore,Go.Cv.cAlloc,Go.Cv.cBox,Go.Cv.cEnd,Go.Cv.cRet,Go.Cv.argsV,Go.Cx.argsW,Go.Cv.regsV,Go.Vc.oneCell,Go.Vc.guardSlot,Nat.add_zero,seval,true_implies,not_true_eq_false,false_implies,and_true,true_and,not_false_eq_true,forall_const,imp_self,implies_true]
   refine⟨v6s,hl6,bv hbe9 (r:=[]) (by simp),by rw[List.size_toArray,hl6],_,_,_,hbz9,Lh.zero _,by simp [hl6],fun u hu=>by rw[Go.Vc.oneCell_eq];exact hx9.val.oneCell u (by simpa using hu),_,rfl,Stp.go ?_⟩
   generalize hwz:World.setRow w9 bz _=wz
   have hwz:World.setRow w9 bz (v6s).toArray=wz:=by rw[<-hwz];congr 1;simp [hl6]
   have hbzz:=setRow_heap w9 bz _ (v6s).toArray 29 _ hbz9
   have gz:=cX hbz9 (v6s).toArray
   rw[hwz] at hbzz gz
   exact⟨v6s,hl6,bv hbzz (r:=[]) (by simp),e6,v6s,G6,rfl,hx9.val.chg gz.chg (fun y hy e=>hbzG6 ((by simpa using e:y=bz)▸hy)),hG6n,fin _ (gA.trans (gz.mono (by simp))),he6.rg,aa⟩
theorem FD {g:FuncId} {n:Nat} {ds:List D} {R:S->List (List C)->Prop} (hc:Go.Vc.callable Tryz.prog g=true)
 (h:∀(w:World) (v:Value) (G:List Nat),CellF w (.sl n ds) v G->GlW w (fun _=>False)->Calls Tryz.prog g #[v] w fun e w'=>∃r,e = .returned r/\∃s,R s []/\(bg (aO s)&&decide ((aO s).length<=900))=true/\(∀ β,RelS Tryz.prog w' β (fun b=>w.heap.size<=b) s r)/\Gr w w') :
 Cl Tryz.prog g [.c (.sl n ds none)] [] R:=by
 refine⟨hc,fun w β ok0 vs ha ho hg=>?_⟩
 have hpl:bg ([S.c (.sl n ds none)].flatMap aO)=true:=rfl
 obtain⟨e1,e2⟩:=er 9500 hpl
 have el:lent [S.c (.sl n ds none)] []=[]:=by simp [lent,e2,dG]
 rw[e1] at ha
 obtain⟨v,G,rfl,hv⟩:∃v G,vs=[v]/\CellF w (.sl n ds) v G:=by
  match vs,ha with
  | [v],⟨⟨G,h1,_⟩,_⟩=>exact⟨v,G,rfl,h1⟩
 have ho':∀b,¬ownB (lent [S.c (.sl n ds none)] []) β b:=by rw[el];rintro b ⟨i,o,hl,_⟩;simp [Go.Dv.look] at hl
 refine (h w v G hv (hg.mono (fun _ _ _=>rfl) fun _ h _=>h.elim)).mono ?_
 rintro e w' ⟨v,rfl,r,hR,hp,hrel,hB⟩
 simp only[Bool.and_eq_true,decide_eq_true_eq] at hp
 obtain⟨k1,k2,k3,k4,k5,k6,k7⟩:=cB (ρ:=[]) (L:=[]) hp.1
 have hbk:back r []=[]:=by simp [back,k2,dG]
 have hnb:∀b,¬ownB (back r []) β b:=by rw[hbk];rintro b ⟨i,o,hl,_⟩;simp [Go.Dv.look] at hl
 refine⟨v,r,[],β,rfl,hR,⟨?_,⟨fun i o hl=>?_,fun i j o o' b hl=>?_⟩,fun k hk=>absurd hk (Nat.not_lt_zero _),rfl,⟨hB.size,fun b hb _=>hB.keep b hb,fun b _ hb=>(hnb b hb).elim,fun b cs ty lh hc=>⟨cs,lh,(hB.keep b (bq hc)).trans hc,rfl⟩⟩,hB.size,⟨hB.os,hB.tape,hB.output⟩,⟨by simp [fps,k7,pn],fun b hb=>?_⟩,by simp [flat,k6,hp.2,jv]⟩⟩
 ·rw[ji hp.1]
  exact (hrel β).st (cP fun b hb=>⟨hnb b,fun hlt=>by omega⟩)
 ·simp [hbk,Go.Dv.look] at hl
 ·simp [hbk,Go.Dv.look] at hl
 ·simp [fps,k7,pn] at hb
def DK (r:S):Prop:=∃e:Expr,r = .ag (ar e.row)/\Rg e/\szExpr e<=1048576
theorem Bq (bs:List Int):Cl Tryz.prog 34 [.c (.sl bs.length (bs.flatMap iY) none)] [] fun r _=>DK r:=by
 refine FD ac fun w v G hv hg=>?_
 refine (wq hv hg).2.mono ?_
 rintro e w' ⟨r,rfl,e,vs,G',rfl,h1,h2,h3,h4,h5⟩
 refine⟨_,rfl,.ag (ar e.row),⟨e,rfl,h4,h5⟩,?_,fun β=>⟨vs,rfl,pj h1 h2⟩,h3⟩
 have hl:(aO (S.ag (ar e.row))).length=10:=by
  show (ar e.row).length=10
  have:(ar e.row).length=e.row.length:=by
   generalize e.row=l
   induction l with
   |nil=>rfl
   |cons a r ih=>cases a<;>simp [ar,qq,ih]
  rw[this,aK]
 rw[hl]
 exact Bool.and_eq_true_iff.2 ⟨nI _,rfl⟩
end Go.Proofs.YtoegnikpokgbfaaGreatDoor
