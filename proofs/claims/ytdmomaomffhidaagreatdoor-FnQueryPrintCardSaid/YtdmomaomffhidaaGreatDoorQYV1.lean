/-
  Draws of expressions and queries.
  Conditions: none.
-/
import Derived.Test.YtdmomaomffhidaaGreatDoorQYY
import Derived.Test.YtdmomaomffhidaaGreatDoorQYF1
set_option linter.unusedVariables false
set_option linter.unusedSimpArgs false
set_option linter.unusedSectionVars false
set_option linter.unnecessarySimpa false
set_option maxRecDepth 8000
namespace Go.Proofs.YtdmomaomffhidaaGreatDoor
open Go Go.Dv
open Go.Vc (D dm dq cV bq)
open Go.Cv Go.Cx
class CodeOut extends Out where
 ok:∃(a:Option Addr) (n cap:Nat),code = .slice a n cap/\n<=maxLen/\(n=0∨∃b o Q,a=some ⟨b,o,none⟩/\(b,Q)∈vars/\∀cs:Array Value,Q cs->∀j,j<n->∃z:Int,cs[o+j]?=some (.int .u8 z))
set_option maxHeartbeats 1000000 in
theorem yU [h:CodeOut] (w:World) (b:Nat) (i hh:Int) (ty:TypeId) (lh:Nat×Nat) (hb:w.heap[b]?=some (.cells #[Out.code,.int .i64 i,.int .i64 hh] ty lh)) (hl:Lh 3 lh) (hi:0<=i) (hg:GlW w (fun x=>x=b)) :
 Go.Vc.callable Tryz.prog 167=true/\Calls Tryz.prog 167 #[.pointer (some ⟨b,0,none⟩)] w fun e w'=>∃r,e = .returned r/\∃x i' h':Int,r = .int .i64 x/\0<=x/\x<=255/\0<=i'/\w'.heap[b]?=some (.cells #[Out.code,.int .i64 i',.int .i64 h'] ty lh)/\ChL [b] w w'/\w'.heap.size=w.heap.size:=by
 obtain⟨a,n,cap,hc,hn,hcode⟩:=h.ok
 simp only[maxLen] at hn
 rw[hc] at hb ⊢
 refine⟨ae,?_⟩
 refine @ze _ w 167 Tryz.f167 _ [.pointer (some ⟨b,0,none⟩)] _ Tryz.func167 rfl (Nat.le_of_ble_eq_true rfl) ?_
 simp (maxSteps:=9999999) only[tt,Go.Cx.xc,Go.Cx.xl,Go.Cx.xOp,Go.Cx.xStoreP,Go.Cv.cg0,Go.Cv.cOp,Go.Cv.cLoad,Go.Cv.cStore,Go.Cv.cEnd,Go.Cv.cRet,Go.Cv.regsV,Go.Vc.oneCell,seval,Tryz.f167]
 refine⟨_,bC hb (j:=2) rfl,?_⟩
 simp (maxSteps:=9999999) only[tt,seval]
 refine il hb hl (by simp) fun w1 hb1 g1 e1=>?_
 obtain⟨h1,hb1⟩:∃h1,w1.heap[b]?=some (.cells #[.slice a n cap,.int .i64 i,.int .i64 h1] ty lh):=⟨_,hb1⟩
 refine⟨ac,xDrawn.intro (dW [0,2,4,6,8,10,12,14,16,18,20,22,24]) ae fun w2 p2 g2=>?_⟩
 have hb2:=(congrArg (·[b]?) p2).trans hb1
 simp (maxSteps:=9999999) only[tt,Go.Cx.xOp,Go.Cx.xPlan,dW,Go.Cv.cg0,Go.Cv.cOp,Go.Cv.cLoad,seval]
 refine⟨_,bC hb2 (j:=2) rfl,?_⟩
 simp (maxSteps:=9999999) only[tt,seval]
 refine⟨_,bC hb2 (j:=2) rfl,?_⟩
 simp (maxSteps:=9999999) only[tt,seval,dm,dq,cV]
 refine⟨ac,xDrawn.intro (dW [0,2,4,6,8,10,12,14,16,18]) ae fun w3 p3 g3=>?_⟩
 have hb3:=(congrArg (·[b]?) p3).trans hb2
 simp (maxSteps:=9999999) only[tt,Go.Cx.xOp,Go.Cx.xPlan,dW,Go.Cv.cg0,Go.Cv.cOp,Go.Cv.cLoad,Nat.add_zero,seval]
 refine⟨_,bC hb3 (j:=1) rfl,?_⟩
 simp (maxSteps:=9999999) only[tt,seval]
 refine⟨_,bC hb3 (j:=0) rfl,?_⟩
 simp (maxSteps:=9999999) only[tt,seval]
 refine ab (fun hlt=>?_) (fun hge=>?_)
 ·obtain⟨bc,o,Q,rfl,hQ,hcs⟩:=hcode.resolve_left aa
  obtain⟨hne,cs,tc,lc,hbc,hq⟩:=hg _ (List.mem_append_right _ hQ)
  have hne:bc≠b:=hne
  obtain⟨z,hz⟩:=hcs cs hq i.toNat aa
  have hbc1:=ChL.at g1 hbc (by simpa using hne)
  have hbc3:=(congrArg (·[bc]?) (p3.trans p2)).trans hbc1
  refine⟨ac,xDrawn.intro (dW [0,2,4,6,8,10,12,14,16,18,20,22,24,26,28]) ae fun w4 p4 g4=>?_⟩
  have hb4:=(congrArg (·[b]?) p4).trans hb3
  have hbc4:=(congrArg (·[bc]?) p4).trans hbc3
  simp (maxSteps:=9999999) only[tt,Go.Cx.xOp,Go.Cx.xPlan,dW,Go.Cv.cg0,Go.Cv.cOp,Go.Cv.cLoad,Nat.add_zero,seval]
  refine⟨_,bC hb4 (j:=0) rfl,?_⟩
  simp (maxSteps:=9999999) only[seval]
  refine⟨_,bC hb4 (j:=1) rfl,?_⟩
  simp (maxSteps:=9999999) only[seval]
  refine⟨hi,hlt,?_⟩
  simp (maxSteps:=9999999) only[seval,Nat.mul_one]
  refine⟨_,bC hbc4 hz,?_⟩
  simp (maxSteps:=9999999) only[tt,seval,cV]
  refine⟨_,bC hb4 (j:=1) rfl,?_⟩
  simp (maxSteps:=9999999) only[tt,seval]
  refine il hb4 hl (by simp) fun w5 hb5 g5 e5=>?_
  have hb5:w5.heap[b]?=some (.cells #[.slice (some ⟨bc,o,none⟩) n cap,.int .i64 (IntKind.i64.wrap (i+1)),.int .i64 h1] ty lh):=hb5
  rw[aE (n:=i+1) aa aa] at hb5
  simp (maxSteps:=9999999) only[tt,seval]
  refine⟨_,_,_,rfl,(bq _).1,(bq _).2,aa,hb5,(((g1.trans (g2.chl _)).trans (g3.chl _)).trans (g4.chl _)).trans g5,e5.trans ((congrArg (·.size) p4).trans ((congrArg (·.size) p3).trans ((congrArg (·.size) p2).trans e1)))⟩
 ·try simp (maxSteps:=9999999) only[tt,Go.Cx.xc,Go.Cx.xl,Go.Cx.xOp,Go.Cx.xCall,Go.Cx.xStoreP,Go.Cx.xPlan,dW,Go.Cv.cg0,Go.Cv.cg1,Go.Cv.cOp,Go.Cv.cLoad,Go.Cv.cLoadA,Go.Cv.cStore,Go.Cv.cAlloc,Go.Cv.cBox,Go.Cv.cEnd,Go.Cv.cRet,Go.Cv.argsV,Go.Cv.regsV,Go.Vc.oneCell,Go.Vc.guardSlot,Nat.add_zero,seval]
  refine⟨_,_,_,rfl,(bq _).1,(bq _).2,hi,hb3,(g1.trans (g2.chl _)).trans (g3.chl _),(congrArg (·.size) p3).trans ((congrArg (·.size) p2).trans e1)⟩
end Go.Proofs.YtdmomaomffhidaaGreatDoor
set_option maxRecDepth 8000
namespace Go.Proofs.YtdmomaomffhidaaGreatDoor
open Go Go.Dv
open Go.Vc (D dm dq cV bq)
open Go.Vc (D dm dq cV bq eh)
open Go.Cv Go.Cx
def km (b:Int):List D:=[.lit (.int .u8 b)]
theorem sB (b:Int):(km b).length=1:=rfl
theorem Gc (b:Int) (r:List D):km b++r≠[]:=fun h=>by cases h
structure Cur where
 i:Int
 h:Int
def Cur.cs [Out] (c:Cur):List C:=[.v Out.code,.v (.int .i64 c.i),.v (.int .i64 c.h)]
def KD [Out] (P:Int->Prop) (r:S) (os:List (List C)):Prop:=∃x c',r=vi x/\os=[Cur.cs c']/\P x/\0<=c'.i
def th [Out] (P:S->Prop) (r:S) (os:List (List C)):Prop:=∃c':Cur,P r/\os=[c'.cs]/\0<=c'.i
theorem kn [h:CodeOut] (c:Cur) (h0:0<=c.i):Cl Tryz.prog 167 [.c (.p 9000 0)] [c.cs] (KD fun x=>0<=x/\x<=255):=by
 obtain⟨i,hh⟩:=c
 refine⟨ae,fun w β ok0 vs ha ho hg=>?_⟩
 obtain⟨b,xs,ty,lh,hβ,hb,hlh,hsf,hrl⟩:=ho.rel 9000 (.str (Cur.cs ⟨i,hh⟩)) rfl
 have hxs:xs = #[Out.code,.int .i64 i,.int .i64 hh]:=by
  have e:xs=xs.toList.toArray:=by simp
  rw[e]
  generalize xs.toList=l at hrl
  match l,hrl with
  | [_,_,_],⟨⟨rfl,_⟩,⟨rfl,_⟩,⟨rfl,_⟩,_⟩=>rfl
 subst hxs
 have hvs:vs=[.pointer (some ⟨b,0,none⟩)]:=by
  match vs,ha with
  | [_],⟨⟨b',hb',rfl⟩,_⟩=>
   have hb':β 9000=some b':=hb'
   rw[hβ] at hb'
   injection hb' with hb'
   rw[hb']
 subst hvs
 obtain⟨ok1,ok2⟩:eh Out.code/\True:=by
  match hrl with
  |⟨⟨_,h1⟩,_⟩=>exact⟨h1,trivial⟩
 have own:∀x,x=b->ownB (lent [.c (.p 9000 0)] [Cur.cs ⟨i,hh⟩]) β x:=fun x e=>⟨9000,_,rfl,by rw[e];exact hβ⟩
 have key:∀(k:Nat) (o:O),Go.Dv.look (lent [.c (.p 9000 0)] [Cur.cs ⟨i,hh⟩]) k=some o->k=9000:=fun k o hk=>by
  have:Go.Dv.look [(9000,O.str (Cur.cs ⟨i,hh⟩))] k=some o:=hk
  simp only[Go.Dv.look] at this
  split at this
  ·rename_i e;exact e.symm
  ·cases this
 have hgw:GlW w (fun x=>x=b):=hg.mono (fun _ _ _=>rfl) fun x hx _=>own x hx
 refine ((yU w b i hh ty lh hb hlh h0 hgw).2).mono ?_
 rintro e w' ⟨r,rfl,x,i',h',rfl,h1,h2,h3,hb',g,hs⟩
 have key':∀(k:Nat) (o:O),Go.Dv.look (back (vi x) [Cur.cs ⟨i',h'⟩]) k=some o->k=9000/\o = .str (Cur.cs ⟨i',h'⟩):=fun k o hk=>by
  have:Go.Dv.look [(9000,O.str (Cur.cs ⟨i',h'⟩))] k=some o:=hk
  simp only[Go.Dv.look] at this
  split at this
  ·rename_i e;injection this with this;exact⟨e.symm,this.symm⟩
  ·cases this
 refine⟨_,vi x,[Cur.cs ⟨i',h'⟩],β,rfl,⟨x,⟨i',h'⟩,rfl,rfl,⟨h1,h2⟩,h3⟩,⟨⟨rfl,trivial⟩,⟨fun k o hk=>?_,fun k k' o o' y hk hk' _ _=>(key' k o hk).1.trans (key' k' o' hk').1.symm⟩,fun _ _=>rfl,rfl,⟨aa,fun y hy hn=>?_,fun y hy hn=>?_,fun y cs t l hy=>?_⟩,?_,⟨g.chg.os,g.chg.tape,g.chg.output⟩,⟨List.nodup_nil,fun y hy=>by cases hy⟩,rfl⟩⟩
 ·obtain⟨rfl,rfl⟩:=key' k o hk
  exact⟨b,_,ty,lh,hβ,hb',hlh,SelfOk.none (by simp [Cur.cs]),⟨rfl,ok1⟩,⟨rfl,trivial⟩,⟨rfl,trivial⟩,trivial⟩
 ·exact g.keep y hy fun e=>hn (own y (by simpa using e))
 ·obtain⟨k,o,hk,hkb⟩:=hn
  obtain⟨rfl,_⟩:=key' k o hk
  exact own y (by rw[hβ] at hkb;injection hkb with hkb;exact hkb.symm)
 ·by_cases e:y=b
  ·subst e
   rw[hb] at hy
   injection hy with hy
   injection hy with e1 e2 e3
   subst e1 e2 e3
   exact⟨_,_,hb',rfl⟩
  ·exact⟨cs,l,(g.keep y (Array.getElem?_eq_some_iff.1 hy).1 (by simpa using e)).trans hy,rfl⟩
 ·show w.heap.size<=w'.heap.size
  omega
section
variable [CodeOut]
theorem bj (c:Cur) (h0:0<=c.i) (n:Int):Cl Tryz.prog 74 [.c (.p 9000 0),vi n] [c.cs] (KD fun x=>0<=x/\(0<n->x<n)):=by
 refine ai ac false Tryz.func74 rfl ae ?_
 simp only[Tryz.f74,tt,seval]
 refine ab (fun h=>?_) (fun h=>ab (fun h1=>?_) (fun h1=>?_))
 ·exact⟨_,_,⟨0,c,rfl,rfl,⟨aa,aa⟩,h0⟩,k8 rfl rfl⟩
 ·skip
  refine CallQ.intro (kn c h0) ?_ ?_ ?_
  ·decide
  ·simp only[tt,seval,Cur.cs]
  rintro r os ⟨x,c1,rfl,rfl,hx,ix⟩ hos
  simp only[tt,seval,Cur.cs]
  rw[yz aa]
  simp only[tt,seval]
  exact⟨_,_,⟨_,c1,rfl,rfl,⟨Int.tmod_nonneg _ hx.1,fun h2=>Int.tmod_lt_of_pos _ h2⟩,ix⟩,k8 rfl rfl⟩
 ·skip
  refine CallQ.intro (kn c h0) ?_ ?_ ?_
  ·decide
  ·simp only[tt,seval,Cur.cs]
  rintro r os ⟨x,c1,rfl,rfl,hx,ix⟩ hos
  simp only[tt,seval,Cur.cs]
  refine CallQ.intro (kn c1 ix) ?_ ?_ ?_
  ·decide
  ·simp only[tt,seval,Cur.cs]
  rintro r os ⟨y,c2,rfl,rfl,hy,iy⟩ hos
  simp only[tt,seval,Cur.cs]
  refine CallQ.intro (kn c2 iy) ?_ ?_ ?_
  ·decide
  ·simp only[tt,seval,Cur.cs]
  rintro r os ⟨z,c3,rfl,rfl,hz,iz⟩ hos
  simp only[tt,seval,Cur.cs]
  refine CallQ.intro (kn c3 iz) ?_ ?_ ?_
  ·decide
  ·simp only[tt,seval,Cur.cs]
  rintro r os ⟨w,c4,rfl,rfl,hw,iw⟩ hos
  simp only[tt,seval,Cur.cs]
  rw[yz aa]
  simp only[tt,seval]
  have e1:=aE (n:=x*16777216) aa aa
  have e2:=aE (n:=y*65536) aa aa
  have e3:=aE (n:=z*256) aa aa
  have e4:=aE (n:=x*16777216+y*65536) aa aa
  have e5:=aE (n:=x*16777216+y*65536+z*256) aa aa
  have e6:=aE (n:=x*16777216+y*65536+z*256+w) aa aa
  rw[e1,e2,e3,e4,e5,e6]
  exact⟨_,_,⟨_,c4,rfl,rfl,⟨Int.tmod_nonneg _ aa,fun h2=>Int.tmod_lt_of_pos _ h2⟩,iw⟩,k8 rfl rfl⟩
theorem bT (c:Cur) (h0:0<=c.i) (n:Int):Cl Tryz.prog 120 [.c (.p 9000 0),vi n] [c.cs] (th fun r=>∃b,r=vb b):=by
 refine ai ac false Tryz.func120 rfl ae ?_
 simp only[Tryz.f120,tt,seval]
 refine CallQ.intro (bj c h0 n) ?_ ?_ ?_
 ·decide
 ·simp only[tt,seval,Cur.cs]
 rintro r os ⟨x,c1,rfl,rfl,hx,i1⟩ hos
 simp only[tt,seval,Cur.cs]
 exact⟨_,_,⟨c1,⟨_,rfl⟩,rfl,i1⟩,k8 rfl rfl⟩
theorem fX (c:Cur) (h0:0<=c.i) (ss:List ByteArray) (hne:0<ss.length):Cl Tryz.prog 165 [.c (.p 9000 0),.c (.sl ss.length (ss.flatMap srow) none)] [c.cs] (th fun r=>∃s∈ss,r=vs s):=by
 refine ai ac false Tryz.func165 rfl ae ?_
 simp only[Tryz.f165,tt,seval]
 intro hln
 refine CallQ.intro (bj c h0 ss.length) ?_ ?_ ?_
 ·decide
 ·simp only[tt,seval,Cur.cs]
 rintro r os ⟨x,c1,rfl,rfl,hx,i1⟩ hos
 simp only[tt,seval,Cur.cs]
 have hx2:=hx.2 aa
 obtain⟨k,rfl⟩:∃k:Nat,x=k:=⟨x.toNat,aa⟩
 have hk:k<ss.length:=by omega
 refine⟨aa,aa,_,aI fM (aC hk),ky _ _,?_⟩
 simp only[tt,seval,srow]
 exact⟨_,_,⟨c1,⟨_,aM hk,rfl⟩,rfl,i1⟩,k8 rfl rfl⟩
theorem jy (c:Cur) (h0:0<=c.i) (ss:List Int) (hne:0<ss.length):Cl Tryz.prog 76 [.c (.p 9000 0),.c (.sl ss.length (ss.flatMap irow) none)] [c.cs] (th fun r=>∃s∈ss,r=vi s):=by
 refine ai ac false Tryz.func76 rfl ae ?_
 simp only[Tryz.f76,tt,seval]
 intro hln
 refine CallQ.intro (bj c h0 ss.length) ?_ ?_ ?_
 ·decide
 ·simp only[tt,seval,Cur.cs]
 rintro r os ⟨x,c1,rfl,rfl,hx,i1⟩ hos
 simp only[tt,seval,Cur.cs]
 have hx2:=hx.2 aa
 obtain⟨k,rfl⟩:∃k:Nat,x=k:=⟨x.toNat,aa⟩
 have hk:k<ss.length:=by omega
 refine⟨aa,aa,_,aI vJ (aC hk),Ev _ _,?_⟩
 simp only[tt,seval,irow]
 exact⟨_,_,⟨c1,⟨_,aM hk,rfl⟩,rfl,i1⟩,k8 rfl rfl⟩
theorem BF (bs:List Int) (m:Int) (h0:2<=m):Cl Tryz.prog 75 [.c (.sl bs.length (bs.flatMap km) none),vi m] [] fun r _=>∃x:Int,r=vi x/\2<=x/\x<=m:=by
 refine ai ac false Tryz.func75 rfl ae ?_
 simp only[Tryz.f75,tt,seval]
 intro hln
 rw[Int.tdiv_eq_ediv_of_nonneg (by omega:(0:Int)<=bs.length),aE (n:=(bs.length:Int) / 20) aa aa,aE aa aa]
 exact ab (fun h=>⟨_,_,⟨_,rfl,h0,Int.le_refl _⟩,ao rfl⟩) (fun h=>⟨_,_,⟨_,rfl,aa,aa⟩,ao rfl⟩)
end
structure CurD where
 b:List Int
 i:Int
 h:Int
def CurD.cs (c:CurD):List C:=[.sl c.b.length (c.b.flatMap km) none,.v (.int .i64 c.i),.v (.int .i64 c.h)]
section
variable [Out]
theorem Ge (bs:List Int):JN Tryz.prog 72 [.c (.sl bs.length (bs.flatMap km) none)] fun cs=>∃c:CurD,cs=c.cs/\0<=c.i:=by
 refine D8 ac Tryz.func72 rfl ae rfl ?_
 simp only[Tryz.f72,tt,seval]
 intro hln
 refine dLoop.intro (fun f L p=>∃(i:Nat) (h:Int),f 4=vi i/\f 3=vi h/\L=[]/\p=none/\i<=bs.length)
  (fun f _ _=>(bs.length-fH (f 4)).toNat) [] none ⟨ap _,au _,?_⟩ ?_
 ·simp only[tt,seval]
  exact⟨0,_,rfl,rfl,aa⟩
 ·rintro g L p ⟨i,h,h4,h3,rfl,rfl,hi⟩
  simp only[tt,seval] at h4 h3
  simp only[tt,seval,h4]
  refine fun _=>ab (fun hlt=>?_) (fun hge=>?_)
  ·simp only[tt,seval,h4,h3]
   have hlt:i<bs.length:=by simpa using hlt
   refine ab (fun h40=>?_) (fun h40=>?_)
   ·refine⟨aa,aa,_,aI sB (aC hlt),Gc _ _,?_⟩
    simp only[tt,seval,h4,km]
    rw[eR i aa]
    exact⟨[],none,ap _,au _,⟨i+1,_,by simp,rfl,rfl,rfl,aa⟩,az⟩
   ·exact⟨_,rfl,rfl,⟨bs,0,h⟩,rfl,Int.le_refl _⟩
  ·simp only[tt,seval,h4,h3]
   exact⟨_,rfl,rfl,⟨bs,0,h⟩,rfl,Int.le_refl _⟩
end
end Go.Proofs.YtdmomaomffhidaaGreatDoor
set_option maxRecDepth 8000
namespace Go.Proofs.YtdmomaomffhidaaGreatDoor
open Go Go.Dv
open Go.Vc (D dm dq cV bq)
theorem JA (bs:List Int):Cl Tryz.prog 7 [.c (.sl bs.length (bs.flatMap km) none)] [] fun r _=>r=vb (decide ((1048576:Int)<(bs.length:Int))):=by
 refine ai ac false Tryz.func7 rfl ae ?_
 simp only[Tryz.f7,tt,seval]
 refine fun _=>?_
 exact⟨_,_,rfl,ao rfl⟩
theorem JB (a b:Int) (w:World):(Op.equalIn 10000 38 (.agg [.int .i64 a,.int .i64 b].toArray) (.agg [.int .i64 a,.int .i64 b].toArray)).run Tryz.prog w = .ok true w:=by
 refine Go.Vc.equalIn_fk (ks:=[(0,.int),(1,.int)]) ae ae ae ?_ w
 simp only[Go.Vc.eqFK,List.getElem?_cons_zero,List.getElem?_cons_succ]
 simp
section
variable [CodeOut]
def yV (x:Int):Prop:=-9223372036854775808<=x/\x<=9223372036854775807
theorem uf (c:Cur) (h0:0<=c.i):Cl Tryz.prog 225 [.c (.p 9000 0)] [c.cs] (th fun r=>∃x,r=vi x/\yV x):=by
 refine ai ac false Tryz.func225 rfl ae ?_
 simp only[Tryz.f225,tt,seval]
 refine CallQ.intro (bj c h0 3) ?_ ?_ ?_
 ·decide
 ·simp only[tt,seval,Cur.cs]
 rintro r os ⟨x,c1,rfl,rfl,hx,i1⟩ hos
 simp only[tt,seval,Cur.cs]
 refine ab (fun h=>?_) (fun h=>ab (fun h2=>?_) (fun h2=>?_))
 ·skip
  refine gQ [8] ?_
  simp only[tt,seval]
  refine Call1.intro (jy c1 i1 [0,1,-1,63,64,-64,-65,127,128,16383,16384,9223372036854775807,-9223372036854775808,4611686018427387904] ah) ?_ ?_ ?_
  ·decide
  ·simp only[tt,seval,Cur.cs,irow]
  rintro r os ⟨c2,⟨s,hs,rfl⟩,rfl,i2⟩ hos
  simp only[tt,seval,Cur.cs,irow]
  exact⟨_,_,⟨c2,⟨_,rfl,(by decide:∀s∈([0,1,-1,63,64,-64,-65,127,128,16383,16384,9223372036854775807,-9223372036854775808,4611686018427387904]:List Int),-9223372036854775808<=s/\s<=9223372036854775807) s hs⟩,rfl,i2⟩,k8 rfl rfl⟩
 ·skip
  refine CallQ.intro (bj c1 i1 1000000) ?_ ?_ ?_
  ·decide
  ·simp only[tt,seval,Cur.cs]
  rintro r os ⟨y,c2,rfl,rfl,hy,i2⟩ hos
  simp only[tt,seval,Cur.cs]
  have:=hy.2 aa
  rw[aE (n:=y-500000) aa aa]
  exact⟨_,_,⟨c2,⟨_,rfl,by unfold yV;omega⟩,rfl,i2⟩,k8 rfl rfl⟩
 ·skip
  refine CallQ.intro (bj c1 i1 20) ?_ ?_ ?_
  ·decide
  ·simp only[tt,seval,Cur.cs]
  rintro r os ⟨y,c2,rfl,rfl,hy,i2⟩ hos
  simp only[tt,seval,Cur.cs]
  have:=hy.2 aa
  exact⟨_,_,⟨c2,⟨_,rfl,by unfold yV;omega⟩,rfl,i2⟩,k8 rfl rfl⟩
theorem sC (n:Int):Cl Tryz.prog 258 [vi n] [] fun r _=>r = .ag (aw (Val.mk 1 n ⟨#[]⟩).row):=by
 rw[Val.row]
 refine ai ac false Tryz.func258 rfl ae ?_
 simp only[Tryz.f258,tt,seval]
 exact⟨_,_,rfl,ao rfl⟩
theorem vq (s:ByteArray):Cl Tryz.prog 256 [vs s] [] fun r _=>r = .ag (aw (Val.mk 2 0 s).row):=by
 rw[Val.row]
 refine ai ac false Tryz.func256 rfl ae ?_
 simp only[Tryz.f256,tt,seval]
 exact⟨_,_,rfl,ao rfl⟩
theorem xC (b:Bool):Cl Tryz.prog 257 [vb b] [] fun r _=>r = .ag (aw (Val.mk 3 (if b=true then 1 else 0) ⟨#[]⟩).row):=by
 rw[Val.row]
 refine ai ac false Tryz.func257 rfl ae ?_
 simp only[Tryz.f257,tt,seval]
 refine ab (fun h=>?_) (fun h=>?_)
 ·subst h;exact⟨_,_,rfl,ao rfl⟩
 ·subst h;exact⟨_,_,rfl,ao rfl⟩
def KF (v:Val):Prop:=yV v.num/\(v=⟨0,0,⟨#[]⟩⟩∨(v.kind=1/\v.text=⟨#[]⟩)∨(v.kind=2/\v.num=0/\v.text.size<=40)∨(v.kind=3/\(v.num=0∨v.num=1)/\v.text=⟨#[]⟩))
def Kk (P:Val->Prop) (r:S):Prop:=∃v:Val,r = .ag (aw v.row)/\P v
theorem ug (c:Cur) (h0:0<=c.i):Cl Tryz.prog 224 [.c (.p 9000 0)] [c.cs] (th (Kk KF)):=by
 refine ai ac false Tryz.func224 rfl ae ?_
 simp only[Tryz.f224,tt,seval]
 refine CallQ.intro (bj c h0 6) ?_ ?_ ?_
 ·decide
 ·simp only[tt,seval,Cur.cs]
 rintro r os ⟨x,c1,rfl,rfl,hx,i1⟩ hos
 simp only[tt,seval,Cur.cs]
 refine ab (fun h=>?_) (fun h=>ab (fun h2=>?_) (fun h2=>ab (fun h3=>?_) (fun h3=>ab (fun h4=>?_) (fun h4=>?_))))
 ·exact⟨_,_,⟨c1,⟨⟨0,0,⟨#[]⟩⟩,rfl,by unfold yV;decide,.inl rfl⟩,rfl,i1⟩,k8 rfl rfl⟩
 ·skip
  refine gQ [11] ?_
  simp only[tt,seval]
  refine Call1.intro (fX c1 i1 [⟨#[]⟩,⟨#[97]⟩,⟨#[98]⟩,⟨#[105,116,39,115]⟩,⟨#[97,98]⟩,⟨#[255]⟩] ah) ?_ ?_ ?_
  ·decide
  ·simp only[tt,seval,Cur.cs,srow]
  rintro r os ⟨c2,⟨s,hs,rfl⟩,rfl,ic2⟩ hos
  simp only[tt,seval,Cur.cs,srow]
  refine cZ (vq s) ?_ ?_<;>simp only[tt,seval,Val.row]
  exact⟨_,_,⟨c2,⟨⟨2,0,s⟩,rfl,(show yV 0 by unfold yV;decide),.inr (.inr (.inl ⟨rfl,rfl,(by decide:∀s∈[⟨#[]⟩,⟨#[97]⟩,⟨#[98]⟩,⟨#[105,116,39,115]⟩,⟨#[97,98]⟩,⟨#[255]⟩],s.size<=40) s hs⟩))⟩,rfl,ic2⟩,k8 rfl rfl⟩
 ·skip
  refine CallQ.intro (bT c1 i1 2) ?_ ?_ ?_
  ·decide
  ·simp only[tt,seval,Cur.cs]
  rintro r os ⟨c2,⟨b,rfl⟩,rfl,i2⟩ hos
  simp only[tt,seval,Cur.cs]
  refine cZ (xC b) ?_ ?_<;>simp only[tt,seval,Val.row]
  exact⟨_,_,⟨c2,⟨⟨3,if b=true then 1 else 0,⟨#[]⟩⟩,rfl,by unfold yV;cases b<;>decide,.inr (.inr (.inr ⟨rfl,by cases b<;>decide,rfl⟩))⟩,rfl,i2⟩,k8 rfl rfl⟩
 ·skip
  refine CallQ.intro (uf c1 i1) ?_ ?_ ?_
  ·decide
  ·simp only[tt,seval,Cur.cs]
  rintro r os ⟨c2,⟨x,rfl,hx2⟩,rfl,i2⟩ hos
  simp only[tt,seval,Cur.cs]
  refine cZ (sC x) ?_ ?_<;>simp only[tt,seval,Val.row]
  exact⟨_,_,⟨c2,⟨⟨1,x,⟨#[]⟩⟩,rfl,hx2,.inr (.inl ⟨rfl,rfl⟩)⟩,rfl,i2⟩,k8 rfl rfl⟩
 ·skip
  refine CallQ.intro (bj c1 i1 7) ?_ ?_ ?_
  ·decide
  ·simp only[tt,seval,Cur.cs]
  rintro r os ⟨y,c2,rfl,rfl,hy,i2⟩ hos
  simp only[tt,seval,Cur.cs]
  have:=hy.2 aa
  rw[aE (n:=y-2) aa aa]
  refine cZ (sC (y-2)) ?_ ?_<;>simp only[tt,seval,Val.row]
  exact⟨_,_,⟨c2,⟨⟨1,y-2,⟨#[]⟩⟩,rfl,(show yV (y-2) by unfold yV;omega),.inr (.inl ⟨rfl,rfl⟩)⟩,rfl,i2⟩,k8 rfl rfl⟩
theorem mm (c:Cur) (h0:0<=c.i):Cl Tryz.prog 166 [.c (.p 9000 0)] [c.cs] (th fun r=>∃s,r=vs s/\bJ s=true):=by
 refine ai ac false Tryz.func166 rfl ae ?_
 simp only[Tryz.f166,tt,seval]
 refine CallQ.intro (bT c h0 6) ?_ ?_ ?_
 ·decide
 ·simp only[tt,seval,Cur.cs]
 rintro r os ⟨c1,⟨b,rfl⟩,rfl,i1⟩ hos
 simp only[tt,seval,Cur.cs]
 refine ab (fun hb=>?_) (fun hb=>?_)
 ·skip
  refine gQ [6] ?_
  simp only[tt,seval]
  refine Call1.intro (fX c1 i1 [⟨#[97,32,98]⟩,⟨#[102,114,111,109]⟩,⟨#[83,101,108,101,99,116]⟩,⟨#[49,120]⟩,⟨#[113,34,113]⟩,⟨#[0]⟩,⟨#[34]⟩,⟨#[105,116,39,115]⟩,⟨#[120,46,121]⟩,⟨#[45]⟩] ah) ?_ ?_ ?_
  ·decide
  ·simp only[tt,seval,Cur.cs,srow]
  rintro r os ⟨c2,⟨s,hs,rfl⟩,rfl,ic2⟩ hos
  simp only[tt,seval,Cur.cs,srow]
  exact⟨_,_,⟨c2,⟨_,rfl,(by decide:∀s∈[⟨#[97,32,98]⟩,⟨#[102,114,111,109]⟩,⟨#[83,101,108,101,99,116]⟩,⟨#[49,120]⟩,⟨#[113,34,113]⟩,⟨#[0]⟩,⟨#[34]⟩,⟨#[105,116,39,115]⟩,⟨#[120,46,121]⟩,⟨#[45]⟩],bJ s=true) s hs⟩,rfl,ic2⟩,k8 rfl rfl⟩
 ·skip
  refine gQ [9] ?_
  simp only[tt,seval]
  refine Call1.intro (fX c1 i1 [⟨#[97]⟩,⟨#[98]⟩,⟨#[99]⟩,⟨#[116]⟩,⟨#[117]⟩,⟨#[118]⟩,⟨#[105,100]⟩,⟨#[110,97,109,101]⟩,⟨#[65]⟩,⟨#[95,120,49]⟩] ah) ?_ ?_ ?_
  ·decide
  ·simp only[tt,seval,Cur.cs,srow]
  rintro r os ⟨c2,⟨s,hs,rfl⟩,rfl,ic2⟩ hos
  simp only[tt,seval,Cur.cs,srow]
  exact⟨_,_,⟨c2,⟨_,rfl,(by decide:∀s∈[⟨#[97]⟩,⟨#[98]⟩,⟨#[99]⟩,⟨#[116]⟩,⟨#[117]⟩,⟨#[118]⟩,⟨#[105,100]⟩,⟨#[110,97,109,101]⟩,⟨#[65]⟩,⟨#[95,120,49]⟩],bJ s=true) s hs⟩,rfl,ic2⟩,k8 rfl rfl⟩
theorem uh (c:Cur) (h0:0<=c.i):Cl Tryz.prog 171 [.c (.p 9000 0)] [c.cs] (th (Kk fun v=>jH v=true/\v.num<=9223372036854775807 /\ -9223372036854775808<=v.num)):=by
 refine ai ac false Tryz.func171 rfl ae ?_
 simp only[Tryz.f171,tt,seval]
 refine CallQ.intro (ug c h0) ?_ ?_ ?_
 ·decide
 ·simp only[tt,seval,Cur.cs]
 rintro r os ⟨c1,⟨⟨k,n,x⟩,rfl,hw,hv⟩,rfl,i1⟩ hos
 simp only[tt,seval,Cur.cs,Val.row]
 have hw:yV n:=hw
 have lit:∀n':Int,(k=1->0<=n')->(k≠1->n'=n)->jH ⟨k,n',x⟩=true:=fun n' h1 h2=>by
  rcases hv with h|⟨hk,hx⟩|⟨hk,hn,hx⟩|⟨hk,hn,hx⟩
  ·injection h with a b d
   subst a b d
   rw[h2 ah];decide
  ·have hk:k=1:=hk
   have hx:x=⟨#[]⟩:=hx
   subst hk hx
   have:=h1 rfl
   simp [jH,dC,this]
   exact Nat.zero_le _
  ·have hk:k=2:=hk
   have hn0:n=0:=hn
   have hx0:x.size<=40:=hx
   subst hk
   rw[h2 ah,hn0]
   have:x.size<=200:=by omega
   simp [jH,dC,hx0]
   omega
  ·have hk:k=3:=hk
   have hn:n=0∨n=1:=hn
   have hx:x=⟨#[]⟩:=hx
   subst hk hx
   rw[h2 ah]
   rcases hn with rfl|rfl<;>decide
 by_cases hk:k=1
 ·simp only[tt,seval,ax hk]
  refine ab (fun hn=>?_) (fun hn=>?_)
  ·try simp only[tt,seval,Cur.cs]
   refine⟨.ag (aw (Val.mk k 9223372036854775807 x).row),[c1.cs],⟨c1,⟨⟨k,9223372036854775807,x⟩,rfl,lit _ (fun _=>by decide) (fun h=>absurd hk h),by show (9223372036854775807:Int)<=_;omega,by show _<=(9223372036854775807:Int);omega⟩,rfl,i1⟩,aq ?_⟩
   simp only[tt,seval,Val.row,Cur.cs]
  ·try simp only[tt,seval,Cur.cs]
   refine⟨.ag (aw (Val.mk k n x).row),[c1.cs],⟨c1,⟨⟨k,n,x⟩,rfl,lit _ (fun _=>by omega) (fun _=>rfl),hw.2,hw.1⟩,rfl,i1⟩,aq ?_⟩
   simp only[tt,seval,Val.row,Cur.cs]
 ·simp only[tt,seval,aB hk]
  refine⟨.ag (aw (Val.mk k n x).row),[c1.cs],⟨c1,⟨⟨k,n,x⟩,rfl,lit _ (fun h=>absurd h hk) (fun _=>rfl),hw.2,hw.1⟩,rfl,i1⟩,aq ?_⟩
  simp only[tt,seval,Val.row,Cur.cs]
end
theorem sD {α:Type} [Inhabited α] {F:(Expr->α)->Expr->α} (hF:∀e g g',(∀x,eX x e->g x=g' x)->F g e=F g' e) (e:Expr):dP F e=F (dP F) e:=by
 rw[dP]
 exact hF _ _ _ fun x hx=>by simp only[dif_pos (lG hx)]
theorem nQ {α:Type} {g g':α->Bool} {l:List α} (h:∀x,x∈l->g x=g' x):l.all g=l.all g':=by
 induction l with
 |nil=>rfl
 |cons y r ih=>rw[List.all_cons,List.all_cons,h y (by simp),ih fun x hx=>h x (by simp [hx])]
theorem vt (e:Expr):fmE e=u7 fmE e:=sD (fun e g g' h=>by
 obtain⟨k,o,n,v,q,m,ks,ss⟩:=e
 show (_&&(ks.all g&&ss.all (iK g)))=(_&&(ks.all g'&&ss.all (iK g')))
 rw[nQ (l:=ks) fun x hx=>h x (.inl hx),nQ (l:=ss) (g:=iK g) (g':=iK g') fun q hq=>by
  show (_&&_)=(_&&_)
  rw[nQ fun x hx=>h x (.inr ⟨q,hq,hx⟩)]]) e
theorem vw (e:Expr):ndE e=Ab ndE e:=sD (fun e g g' h=>by
 obtain⟨k,o,n,v,q,m,ks,ss⟩:=e
 show 1+(ks.map g).sum+(ss.map fun q=>((exprsQ q).map g).sum).sum=1+(ks.map g').sum+(ss.map fun q=>((exprsQ q).map g').sum).sum
 rw[List.map_congr_left (l:=ks) fun x hx=>h x (.inl hx),List.map_congr_left (l:=ss) (f:=fun q=>((exprsQ q).map g).sum) (g:=fun q=>((exprsQ q).map g').sum) fun q hq=>by
  show ((exprsQ q).map g).sum=_
  rw[List.map_congr_left fun x hx=>h x (.inr ⟨q,hq,hx⟩)]]) e
theorem vz (e:Expr):dpE e=GU dpE e:=sD (fun e g g' h=>by
 obtain⟨k,o,n,v,q,m,ks,ss⟩:=e
 show 1+bR (ks.map g++ss.map fun q=>bR ((exprsQ q).map g))=1+bR (ks.map g'++ss.map fun q=>bR ((exprsQ q).map g'))
 rw[List.map_congr_left (l:=ks) fun x hx=>h x (.inl hx),List.map_congr_left (l:=ss) (f:=fun q=>bR ((exprsQ q).map g)) (g:=fun q=>bR ((exprsQ q).map g')) fun q hq=>by
  show bR ((exprsQ q).map g)=_
  rw[List.map_congr_left fun x hx=>h x (.inr ⟨q,hq,hx⟩)]]) e
def dN:Nat->Nat
 |0=>1
 |d+1=>1+3*dN d
theorem Lv:dN 2=13:=rfl
theorem Lw:dN 3=40:=rfl
theorem sE:∀d,1<=dN d
 |0=>Nat.le_refl _
 |d+1=>by rw[dN];omega
theorem Gg {a b:Nat} (h:a<=b):dN a<=dN b:=by
 induction b with
 |zero=>rw[Nat.le_zero.1 h];exact Nat.le_refl _
 |succ b ih=>
  by_cases e:a=b+1
  ·subst e;exact Nat.le_refl _
  ·rw[dN];have:=ih aa;omega
structure DrE (d:Nat) (e:Expr):Prop where
 fm:fmE e=true
 rg:Rg e
 nn:ndE e<=dN d
 dp:dpE e<=d+1
 sz:szExpr e<=200*dN d
structure DrQ (d:Nat) (q:Query):Prop where
 hd:hdB q=true
 li:q.lim<=9223372036854775807
 ex:∀x,x∈exprsQ q->DrE d x
 few:(exprsQ q).length<=5
 sz:szQuery q<=400+1000*dN d
theorem DrQ.fm {d:Nat} {q:Query} (h:DrQ d q):iK fmE q=true:=by
 unfold iK
 rw[h.hd,Bool.true_and];exact List.all_eq_true.2 fun x hx=>(h.ex x hx).fm
theorem eB {α:Type} {g:α->Nat} {b:Nat}:∀ {l:List α},(∀x,x∈l->g x<=b)->(l.map g).sum<=l.length*b
 | [],_=>by simp
 |x::r,h=>by
  have h1:=h x (by simp)
  have h2:=eB (l:=r) fun y hy=>h y (by simp [hy])
  rw[List.map_cons,List.sum_cons,List.length_cons,Nat.succ_mul];omega
theorem DrQ.nodes {d:Nat} {q:Query} (h:DrQ d q):((exprsQ q).map ndE).sum<=5*dN d:=by
 have h1:=eB (g:=ndE) fun x hx=>(h.ex x hx).nn
 exact Nat.le_trans h1 (Nat.mul_le_mul_right _ h.few)
theorem DrE.lit {v:Val} (h:jH v=true) (h1:v.num<=9223372036854775807) (h0 : -9223372036854775808<=v.num) (d:Nat):DrE d (.mk 1 0 false v ⟨#[]⟩ ⟨#[]⟩ [] []):=by
 have hp:=sE d
 have ht:v.text.size<=40:=by
  unfold jH at h
  simp only[Bool.and_eq_true,decide_eq_true_eq] at h
  exact h.2.2
 refine⟨?_,.mk ⟨h0,h1⟩ (fun _ h=>by cases h) (fun _ h=>by cases h) (fun _ h=>by cases h),?_,?_,?_⟩
 ·rw[vt];simp [u7,aF,cO,bQ,h]
 ·rw[vw];show 1+0+0<=_;omega
 ·rw[vz];show 1+0<=_;omega
 ·rw[bh,aP,bO]
  show lp v+_<=_
  simp [lp]
  have e0:({ data:=#[] }:ByteArray).size=0:=rfl
  omega
theorem DrE.col {q n:ByteArray} (hn:bJ n=true) (hq:dc q=true) (d:Nat):DrE d (.mk 2 0 false ⟨0,0,⟨#[]⟩⟩ q n [] []):=by
 have hp:=sE d
 have h1:n.size<=20:=by
  simp only[bJ,decide_eq_true_eq] at hn;omega
 have h2:q.size<=20:=by
  simp only[dc,bJ,Bool.or_eq_true,decide_eq_true_eq] at hq
  rcases hq with rfl|hq
  ·decide
  ·omega
 refine⟨?_,.mk ⟨by show _<=(0:Int);omega,by show (0:Int)<=_;omega⟩ (fun _ h=>by cases h) (fun _ h=>by cases h) (fun _ h=>by cases h),?_,?_,?_⟩
 ·rw[vt];simp [u7,aF,cO,bQ,hn,hq,zV]
 ·rw[vw];show 1+0+0<=_;omega
 ·rw[vz];show 1+0<=_;omega
 ·rw[bh,aP,bO]
  simp [lp]
  have e0:({ data:=#[] }:ByteArray).size=0:=rfl
  omega
theorem DrE.kids {d:Nat} {kind op:Int} {not:Bool} {kids:List Expr} (hs:aF kind op not ⟨0,0,⟨#[]⟩⟩ ⟨#[]⟩ ⟨#[]⟩ kids.length 0=true) (hl:kids.length<=3) (hk:∀x,x∈kids->DrE d x):DrE (d+1) (.mk kind op not ⟨0,0,⟨#[]⟩⟩ ⟨#[]⟩ ⟨#[]⟩ kids []):=by
 have hp:=sE d
 have s1:=eB (g:=ndE) fun x hx=>(hk x hx).nn
 have s2:=eB (g:=szExpr) fun x hx=>(hk x hx).sz
 have m1:=Nat.mul_le_mul_right (dN d) hl
 have m2:=Nat.mul_le_mul_right (200*dN d) hl
 refine⟨?_,.mk ⟨by show _<=(0:Int);omega,by show (0:Int)<=_;omega⟩ (fun x h=>(hk x h).rg) (fun _ h=>by cases h) (fun _ h=>by cases h),?_,?_,?_⟩
 ·rw[vt]
  show (aF kind op not _ _ _ _ _&&(kids.all fmE&&_))=true
  rw[show (([]:List Query).length:Int)=0 from rfl,hs,List.all_eq_true.2 fun x hx=>(hk x hx).fm];rfl
 ·rw[vw]
  show 1+(kids.map ndE).sum+0<=dN (d+1)
  rw[dN];omega
 ·rw[vz]
  show 1+bR (kids.map dpE++[])<=_
  have:bR (kids.map dpE++[])<=d+1:=oL fun y hy=>by
   rw[List.append_nil] at hy
   obtain⟨x,hx,rfl⟩:=List.mem_map.1 hy
   exact (hk x hx).dp
  omega
 ·rw[bh,aP,bO]
  show _<=200*dN (d+1)
  rw[dN]
  simp [lp]
  have e0:({ data:=#[] }:ByteArray).size=0:=rfl
  omega
theorem DrE.sub {d:Nat} {kind:Int} {not:Bool} {kids:List Expr} {q:Query} (hs:aF kind 0 not ⟨0,0,⟨#[]⟩⟩ ⟨#[]⟩ ⟨#[]⟩ kids.length 1=true) (hl:kids.length<=1) (hk:∀x,x∈kids->DrE (d+1) x) (hq:DrQ d q):DrE (d+2) (.mk kind 0 not ⟨0,0,⟨#[]⟩⟩ ⟨#[]⟩ ⟨#[]⟩ kids [q]):=by
 have hp:=sE d
 have s1:=eB (g:=ndE) fun x hx=>(hk x hx).nn
 have s2:=eB (g:=szExpr) fun x hx=>(hk x hx).sz
 have m1:=Nat.mul_le_mul_right (dN (d+1)) hl
 have m2:=Nat.mul_le_mul_right (200*dN (d+1)) hl
 have s3:=hq.nodes
 have s4:=hq.sz
 have e1:dN (d+1)=1+3*dN d:=rfl
 have e2:dN (d+2)=1+3*dN (d+1):=rfl
 refine⟨?_,.mk ⟨by show _<=(0:Int);omega,by show (0:Int)<=_;omega⟩ (fun x h=>(hk x h).rg) (fun y h=>by rw[List.mem_singleton.1 h];exact hq.li) (fun y h x hx=>by rw[List.mem_singleton.1 h] at hx;exact (hq.ex x hx).rg),?_,?_,?_⟩
 ·rw[vt]
  show (aF kind 0 not _ _ _ _ _&&(kids.all fmE&&([q].all (iK fmE))))=true
  rw[show (([q]:List Query).length:Int)=1 from rfl,hs,List.all_eq_true.2 fun x hx=>(hk x hx).fm,List.all_cons,hq.fm];rfl
 ·rw[vw]
  show 1+(kids.map ndE).sum+(((exprsQ q).map ndE).sum+0)<=dN (d+2)
  omega
 ·rw[vz]
  show 1+bR (kids.map dpE++[bR ((exprsQ q).map dpE)])<=_
  have:bR (kids.map dpE++[bR ((exprsQ q).map dpE)])<=d+2:=oL fun y hy=>by
   rcases List.mem_append.1 hy with hy|hy
   ·obtain⟨x,hx,rfl⟩:=List.mem_map.1 hy
    exact (hk x hx).dp
   ·rw[List.mem_singleton.1 hy]
    refine oL fun z hz=>?_
    obtain⟨x,hx,rfl⟩:=List.mem_map.1 hz
    have:=(hq.ex x hx).dp;omega
  omega
 ·rw[bh,aP,bO]
  show _<=200*dN (d+2)
  simp [lp]
  have e0:({ data:=#[] }:ByteArray).size=0:=rfl
  omega
def ItOk (d:Nat) (x:Item):Prop:=nM x=true/\iQ x<=41+200*dN d/\(x.star=false->DrE d x.e)
def SrOk (d i:Nat) (x:Source):Prop:=nN i x=true/\cF x<=41+x.on.length*(1+200*dN d)/\∀e,e∈x.on->DrE d e
theorem It:mf (.mk 0 0 false ⟨0,0,⟨#[]⟩⟩ ⟨#[]⟩ ⟨#[]⟩ [] [])=true:=rfl
theorem Av {s:ByteArray} (h:bJ s=true):s.size<=20:=by
 simp only[bJ,decide_eq_true_eq] at h;omega
theorem yW {s:ByteArray} (h:dc s=true):s.size<=20:=by
 simp only[dc,bJ,Bool.or_eq_true,decide_eq_true_eq] at h
 rcases h with rfl|h
 ·decide
 ·omega
theorem ItOk.star {d:Nat} {q:ByteArray} (h:dc q=true):ItOk d (.mk true q (.mk 0 0 false ⟨0,0,⟨#[]⟩⟩ ⟨#[]⟩ ⟨#[]⟩ [] []) ⟨#[]⟩):=by
 refine⟨by simp only[nM,if_true,h,It];rfl,?_,fun h=>by cases h⟩
 have:=yW h
 have e0:({ data:=#[] }:ByteArray).size=0:=rfl
 rw[iD,bh,aP,bO]
 simp [lp]
 omega
theorem ItOk.ex {d:Nat} {e:Expr} {a:ByteArray} (he:DrE d e) (h:dc a=true):ItOk d (.mk false ⟨#[]⟩ e a):=by
 refine⟨by simp only[nM,h];rfl,?_,fun _=>he⟩
 have:=yW h
 have:=he.sz
 have e0:({ data:=#[] }:ByteArray).size=0:=rfl
 rw[iD]
 omega
theorem SrOk.mk' {d i:Nat} {t a:ByteArray} {on:List Expr} (ht:bJ t=true) (ha:dc a=true) (h1:on.length<=1) (h0:i=0->on=[]) (ho:∀e,e∈on->DrE d e):SrOk d i (.mk t a on):=by
 refine⟨?_,?_,ho⟩
 ·simp only[nN,ht,ha,Bool.true_and,Bool.and_eq_true,decide_eq_true_eq,Bool.or_eq_true]
  refine⟨h1,?_⟩
  by_cases hi:i=0
  ·right;rw[h0 hi];rfl
  ·exact .inl hi
 ·have:=Av ht
  have:=yW ha
  have s2:=eB (g:=szExpr) fun x hx=>(ho x hx).sz
  rw[cM,aP]
  show _<=41+on.length*(1+200*dN d)
  rw[Nat.mul_add,Nat.mul_one]
  omega
theorem DrQ.mk' {d:Nat} {di:Bool} {it:List Item} {fr:List Source} {wh:List Expr} {od:List SortKey} {li:Int} (h1:1<=it.length) (h1':it.length<=2) (hi:∀x,x∈it->ItOk d x) (h2:1<=fr.length) (h2':fr.length<=2) (hf:∀(i:Nat) (h:i<fr.length),SrOk d i fr[i])
 (h3:wh.length<=1) (hw:∀e,e∈wh->DrE d e) (h4:od.length<=1) (ho:∀k,k∈od->DrE d k.e) (h5 : -1<=li) (h6:li<=9223372036854775807):DrQ d (.mk di it fr wh od li):=by
 have hp:=sE d
 have hon:(fr.flatMap Source.on).length<=1:=by
  match fr,h2,h2',hf with
  | [a],_,_,hf=>
   have:=(hf 0 (by simp)).1
   obtain⟨t,x,on⟩:=a
   simp only[nN,List.getElem_cons_zero,Bool.and_eq_true,decide_eq_true_eq,Bool.or_eq_true] at this
   simp only[List.flatMap_cons,List.flatMap_nil,List.append_nil,Source.on]
   omega
  | [a,b],_,_,hf=>
   have p1:=(hf 0 (by simp)).1
   have p2:=(hf 1 (by simp)).1
   obtain⟨t,x,on⟩:=a
   obtain⟨t',x',on'⟩:=b
   simp only[nN,List.getElem_cons_zero,List.getElem_cons_succ,Bool.and_eq_true,decide_eq_true_eq,Bool.or_eq_true] at p1 p2
   simp only[List.flatMap_cons,List.flatMap_nil,List.append_nil,Source.on,aD]
   obtain⟨_,_,_,q2⟩:=p1
   obtain⟨_,_,q3,_⟩:=p2
   rcases q2 with q2|q2
   ·exact absurd trivial q2
   ·omega
 have hfm:∀x,x∈fr->∃i,SrOk d i x:=fun x hx=>by
  obtain⟨i,hi,rfl⟩:=List.mem_iff_getElem.1 hx
  exact⟨i,hf i hi⟩
 have hex:∀x,x∈exprsQ (.mk di it fr wh od li)->DrE d x:=fun x hx=>by
  simp only[exprsQ,List.mem_append] at hx
  rcases hx with ((hx|hx)|hx)|hx
  ·simp only[aU,List.mem_map,List.mem_filter] at hx
   obtain⟨y,⟨hy,hs⟩,rfl⟩:=hx
   exact (hi y hy).2.2 (by simpa using hs)
  ·obtain⟨y,hy,hx⟩:=List.mem_flatMap.1 hx
   obtain⟨i,hh⟩:=hfm y hy
   exact hh.2.2 x hx
  ·exact hw x hx
  ·obtain⟨y,hy,rfl⟩:=List.mem_map.1 hx
   exact ho y hy
 have hl1:=eJ it
 refine⟨?_,h6,hex,?_,?_⟩
 ·unfold hdB
  simp only[Bool.and_eq_true,decide_eq_true_eq]
  exact⟨⟨h1,aa⟩,⟨h2,aa⟩,h3,aa,h5,List.all_eq_true.2 fun x hx=>(hi x hx).1,Ae fun j hj=>(hf j hj).1⟩
 ·simp only[exprsQ,aD,List.length_map]
  omega
 ·have b1:=eB (g:=iQ) (b:=41+200*dN d) fun x hx=>(hi x hx).2.1
  have b3:=eB (g:=szExpr) fun x hx=>(hw x hx).sz
  have b4:=eB (g:=ei) (b:=200*dN d) (l:=od) fun x hx=>by
   obtain⟨e,de⟩:=x
   rw[iq];exact (ho _ hx).sz
  have b2:(fr.map cF).sum<=82+(1+200*dN d):=by
   match fr,h2,h2',hf,hon with
   | [a],_,_,hf,hon=>
    have p1:=(hf 0 (by simp)).2.1
    simp only[List.getElem_cons_zero] at p1
    simp only[List.flatMap_cons,List.flatMap_nil,List.append_nil] at hon
    have:=Nat.mul_le_mul_right (1+200*dN d) hon
    simp only[List.map_cons,List.map_nil,List.sum_cons,List.sum_nil]
    omega
   | [a,b],_,_,hf,hon=>
    have p1:=(hf 0 (by simp)).2.1
    have p2:=(hf 1 (by simp)).2.1
    simp only[List.getElem_cons_zero,List.getElem_cons_succ] at p1 p2
    simp only[List.flatMap_cons,List.flatMap_nil,List.append_nil,aD] at hon
    have:=Nat.mul_le_mul_right (1+200*dN d) hon
    rw[Nat.add_mul] at this
    simp only[List.map_cons,List.map_nil,List.sum_cons,List.sum_nil]
    omega
  have m1:=Nat.mul_le_mul_right (41+200*dN d) h1'
  have m3:=Nat.mul_le_mul_right (200*dN d) h3
  have m4:=Nat.mul_le_mul_right (200*dN d) h4
  rw[bU,dS,cX,aP,cK]
  omega
section
variable [CodeOut]
theorem BG (l:List UInt8) {x:Int} (h0:0<=x) (h1:x<=255):aY l++[.lit (.int .u8 x)]=aY (l++[UInt8.ofNat x.toNat]):=by
 have:((UInt8.ofNat x.toNat).toNat:Int)=x:=by
  rw[UInt8.toNat_ofNat']
  omega
 simp [aY]
 omega
theorem BH:Cl Tryz.prog 168 [] [] fun r _=>r = .c (.sl 29 (kY.flatMap srow) none):=by
 refine ai ac false Tryz.func168 rfl ae ?_
 simp only[tt,seval,Tryz.f168,zh,Gq]
 refine⟨_,[],rfl,aq ?_⟩
 simp only[tt,seval,kY,kws,srow]
theorem BI (c:Cur) (h0:0<=c.i) (n:Nat) (hn:n<=100):Cl Tryz.prog 169 [.c (.p 9000 0),vi n] [c.cs] (th fun r=>∃l:List UInt8,r = .c (.sl l.length (aY l) none)/\l.length=n):=by
 refine ai ac false Tryz.func169 rfl ae ?_
 simp only[Tryz.f169,tt,seval]
 refine dLoop.gh [.ren 7 18] ⟨ah,ah,?_⟩
 refine dLoop0.intro (fun f L p=>∃(i:Nat) (l:List UInt8) (c':Cur),f 6=vi i/\f 5 = .c (.s 18 l.length)/\l.length=i/\i<=n/\0<=c'.i/\L=[(18,.arr 5 (l).length (aY (l)) none),(9000,.str c'.cs)]/\p=none) (fun f _ _=>(n-fH (f 6)).toNat) [(18,.arr 5 (([]:List UInt8)).length (aY (([]:List UInt8))) none),(9000,.str c.cs)] none ⟨ak rfl (ak rfl (ap _)),au _,?_⟩ ?_
 ·simp only[tt,seval]
  exact⟨0,[],c,rfl,rfl,rfl,Nat.zero_le _,h0,rfl⟩
 ·rintro g L p ⟨i,l,c1,h6,h5,hl,hi,i1,rfl,rfl⟩
  simp only[tt,seval] at h6 h5
  simp only[tt,seval,h6,h5,Int.ofNat_lt]
  refine ab (fun hlt=>?_) (fun hge=>?_)
  ·try simp only[tt,seval,h6,h5]
   refine CallQ.intro (kn c1 i1) ?_ ?_ ?_
   ·decide
   ·simp only[tt,seval,Cur.cs]
   rintro r os ⟨x,c2,rfl,rfl,hx,i2⟩ hos
   simp only[tt,seval,h6,Cur.cs]
   rw[IntWalk.u8_in x ⟨hx.1,aa⟩]
   refine qA ?_
   rw[BG l hx.1 hx.2,show l.length+1=(l++[UInt8.ofNat x.toNat]).length by simp]
   try rw[eR i aa]
   exact⟨[(18,.arr 5 (l++[UInt8.ofNat x.toNat]).length (aY (l++[UInt8.ofNat x.toNat])) none),(9000,.str c2.cs)],none,ak rfl (ak rfl (ap _)),au _,⟨i+1,l++[UInt8.ofNat x.toNat],c2,rfl,rfl,by simp [hl],aa,i2,rfl,rfl⟩,az⟩
  ·try simp only[tt,seval,h6,h5]
   refine⟨.c (.sl l.length (aY l) none),[c1.cs],⟨c1,⟨l,rfl,aa⟩,rfl,i1⟩,aq ?_⟩
   simp only[tt,seval,Cur.cs]
theorem oQ (c:Cur) (h0:0<=c.i):Cl Tryz.prog 78 [.c (.p 9000 0)] [c.cs] (th fun r=>∃s:ByteArray,r=vs s/\s.size<=100):=by
 refine ai ac false Tryz.func78 rfl ae ?_
 simp only[Tryz.f78,tt,seval]
 refine CallQ.intro (bj c h0 6) ?_ ?_ ?_
 ·decide
 ·simp only[tt,seval,Cur.cs]
 rintro r os ⟨y,c1,rfl,rfl,hy,i1⟩ hos
 simp only[tt,seval,Cur.cs]
 refine ab (fun h1=>?_) (fun h1=>ab (fun h2=>?_) (fun h2=>ab (fun h3=>?_) (fun h3=>?_)))
 ·try simp only[tt,seval,Cur.cs]
  refine gQ [8] ?_
  simp only[tt,seval]
  refine Call1.intro (fX c1 i1 [⟨#[]⟩,⟨#[97,98,99,100,101,102,103,104,105,106,107,108,109,110,111,112,113,114,115,116]⟩,⟨#[97,98,99,100,101,102,103,104,105,106,107,108,109,110,111,112,113,114,115,116,117]⟩,⟨#[108,105,109,105,116]⟩,⟨#[76,73,77,73,84,83]⟩,⟨#[65,83,99]⟩,⟨#[57]⟩,⟨#[97,57]⟩,⟨#[195,169]⟩] ah) ?_ ?_ ?_
  ·decide
  ·simp only[tt,seval,Cur.cs,srow]
  rintro r os ⟨c2,⟨s,hs,rfl⟩,rfl,i2⟩ hos
  simp only[tt,seval,Cur.cs,srow]
  exact⟨_,_,⟨c2,⟨s,rfl,(by decide:∀w∈[⟨#[]⟩,⟨#[97,98,99,100,101,102,103,104,105,106,107,108,109,110,111,112,113,114,115,116]⟩,⟨#[97,98,99,100,101,102,103,104,105,106,107,108,109,110,111,112,113,114,115,116,117]⟩,⟨#[108,105,109,105,116]⟩,⟨#[76,73,77,73,84,83]⟩,⟨#[65,83,99]⟩,⟨#[57]⟩,⟨#[97,57]⟩,⟨#[195,169]⟩],w.size<=100) s hs⟩,rfl,i2⟩,k8 rfl rfl⟩
 ·try simp only[tt,seval,Cur.cs]
  refine cZ (BH) ?_ ?_<;>simp only[tt,seval]
  refine CallQ.intro (bj c1 i1 29) ?_ ?_ ?_
  ·decide
  ·simp only[tt,seval,Cur.cs]
  rintro r os ⟨z,c2,rfl,rfl,hz,i2⟩ hos
  simp only[tt,seval,Cur.cs]
  have hz2:=hz.2 aa
  obtain⟨k,rfl⟩:∃k:Nat,z=k:=⟨z.toNat,aa⟩
  have hk:k<kY.length:=by show k<29;omega
  refine⟨aa,aa,_,aI fM (aC hk),ky _ _,?_⟩
  simp only[tt,seval,srow]
  exact⟨_,_,⟨c2,⟨_,rfl,(by decide:∀w∈kY,w.size<=100) _ (aM hk)⟩,rfl,i2⟩,k8 rfl rfl⟩
 ·try simp only[tt,seval,Cur.cs]
  refine CallQ.intro (bj c1 i1 5) ?_ ?_ ?_
  ·decide
  ·simp only[tt,seval,Cur.cs]
  rintro r os ⟨z,c2,rfl,rfl,hz,i2⟩ hos
  simp only[tt,seval,Cur.cs]
  have hz2:=hz.2 aa
  obtain⟨k,rfl⟩:∃k:Nat,z=k:=⟨z.toNat,aa⟩
  refine CallQ.intro (BI c2 i2 k aa) ?_ ?_ ?_
  ·decide
  ·simp only[tt,seval,Cur.cs]
  rintro r os ⟨c3,⟨l,rfl,hl⟩,rfl,i3⟩ hos
  simp only[tt,seval,Cur.cs]
  refine⟨ae,by simp only[maxLen];omega,l,rfl,rfl,?_⟩
  simp only[tt,seval]
  exact⟨_,_,⟨c3,⟨⟨l.toArray⟩,rfl,by show l.toArray.size<=100;rw[List.size_toArray];omega⟩,rfl,i3⟩,k8 rfl rfl⟩
 ·try simp only[tt,seval,Cur.cs]
  refine CallQ.intro (mm c1 i1) ?_ ?_ ?_
  ·decide
  ·simp only[tt,seval,Cur.cs]
  rintro r os ⟨c2,⟨s,rfl,hs⟩,rfl,i2⟩ hos
  simp only[tt,seval,Cur.cs]
  have hs2:s.size<=100:=Nat.le_trans (Av hs) aa
  exact⟨_,_,⟨c2,⟨s,rfl,hs2⟩,rfl,i2⟩,k8 rfl rfl⟩
def Lx (v:Val):Prop:=yV v.num/\v.text.size<=1000
def DG:ByteArray:=⟨#[48,49,50,51,52,53,54,55,56,57]⟩
def Ly (Lo:Ob):Nat:=match Go.Dv.look Lo 3 with|some (.str [_,_,.v (.string x)])=>x.size|_=>0
theorem Iu {v:Val} (h:KF v):yV v.num/\v.text.size<=40:=by
 obtain⟨h1,h2⟩:=h
 refine⟨h1,?_⟩
 rcases h2 with rfl|⟨_,h⟩|⟨_,_,h⟩|⟨_,_,h⟩
 ·exact Nat.zero_le _
 ·rw[h];exact Nat.zero_le _
 ·exact h
 ·rw[h];exact Nat.zero_le _
set_option maxHeartbeats 4000000 in
theorem Eb (c:Cur) (h0:0<=c.i):Cl Tryz.prog 170 [.c (.p 9000 0)] [c.cs] (th (Kk Lx)):=by
 refine ai ac false Tryz.func170 rfl ae ?_
 simp only[Tryz.f170,tt,seval]
 refine CallQ.intro (ug c h0) ?_ ?_ ?_
 ·decide
 ·simp only[tt,seval,Cur.cs,fw]
 rintro r os ⟨c1,⟨⟨k,n,x⟩,rfl,hv⟩,rfl,i1⟩ hos
 simp only[tt,seval,Cur.cs,fw,Val.row]
 obtain⟨hw,hx⟩:=Iu hv
 have hw:yV n:=hw
 have hx:x.size<=40:=hx
 refine CallQ.intro (bj c1 i1 14) ?_ ?_ ?_
 ·decide
 ·simp only[tt,seval,Cur.cs]
 rintro r os ⟨y,c2,rfl,rfl,hy,i2⟩ hos
 simp only[tt,seval,Cur.cs,fw]
 refine ab (fun h1=>?_) (fun h1=>ab (fun h2=>?_) (fun h2=>ab (fun h3=>?_) (fun h3=>?_)))
 ·try simp only[tt,seval,Cur.cs,fw,Val.row]
  refine CallQ.intro (bj c2 i2 6) ?_ ?_ ?_
  ·decide
  ·simp only[tt,seval,Cur.cs]
  rintro r os ⟨y2,c3,rfl,rfl,hy2,i3⟩ hos
  simp only[tt,seval,Cur.cs]
  refine⟨.ag (aw (Val.mk (IntKind.i64.wrap (y2-1)) n x).row),[Cur.cs c3],⟨c3,⟨⟨(IntKind.i64.wrap (y2-1)),n,x⟩,rfl,hw,(show x.size<=1000 by omega)⟩,rfl,i3⟩,aq ?_⟩
  simp only[tt,seval,Cur.cs,Val.row]
 ·try simp only[tt,seval,Cur.cs,fw,Val.row]
  refine CallQ.intro (uf c2 i2) ?_ ?_ ?_
  ·decide
  ·simp only[tt,seval,Cur.cs]
  rintro r os ⟨c3,⟨m,rfl,hm⟩,rfl,i3⟩ hos
  simp only[tt,seval,Cur.cs]
  refine⟨.ag (aw (Val.mk k m x).row),[Cur.cs c3],⟨c3,⟨⟨k,m,x⟩,rfl,hm,(show x.size<=1000 by omega)⟩,rfl,i3⟩,aq ?_⟩
  simp only[tt,seval,Cur.cs,Val.row]
 ·try simp only[tt,seval,Cur.cs,fw,Val.row]
  refine gQ [22] ?_
  simp only[tt,seval]
  refine Call1.intro (fX c2 i2 [⟨#[120]⟩,⟨#[]⟩,⟨#[108,111,110,103]⟩] ah) ?_ ?_ ?_
  ·decide
  ·simp only[tt,seval,Cur.cs,srow]
  rintro r os ⟨c3,⟨s,hs,rfl⟩,rfl,i3⟩ hos
  simp only[tt,seval,Cur.cs,srow]
  have hs2:=(by decide:∀w∈[⟨#[120]⟩,⟨#[]⟩,⟨#[108,111,110,103]⟩],w.size<=7) s hs
  refine dLoop.intro (fun f Lo p=>∃(ce:Cur) (z:ByteArray),0<=ce.i/\z.size<=1000/\Lo=[(9000,.str (Cur.cs ce)),(3,.str [.v (.int .i64 k),.v (.int .i64 n),.v (.string z)]),(2,.str [.v (.int .i64 0),.v (.int .i64 0),.v (.string ByteArray.empty)])]/\p=none) (fun _ Lo _=>1000-Ly Lo) [(9000,.str (Cur.cs c3)),(3,.str [.v (.int .i64 k),.v (.int .i64 n),.v (.string s)]),(2,.str [.v (.int .i64 0),.v (.int .i64 0),.v (.string ByteArray.empty)])] none ⟨by simp only[Cur.cs];exact ak rfl (ak rfl (ak rfl (ap _))),au _,?_⟩ ?_
  ·exact⟨c3,s,i3,aa,rfl,rfl⟩
  ·rintro g Lo p ⟨ce,z,ic,hz,rfl,rfl⟩
   simp only[tt,seval,Cur.cs,fw]
   refine CallQ.intro (bT ce ic 2) ?_ ?_ ?_
   ·decide
   ·simp only[tt,seval,Cur.cs]
   rintro r os ⟨cf,⟨b,rfl⟩,rfl,ig⟩ hos
   simp only[tt,seval,Cur.cs]
   cases b
   ·try simp only[tt,seval]
    refine⟨.ag (aw (Val.mk k n z).row),[Cur.cs cf],⟨cf,⟨⟨k,n,z⟩,rfl,hw,(show z.size<=1000 by omega)⟩,rfl,ig⟩,aq ?_⟩
    simp only[tt,seval,Cur.cs,Val.row]
   ·try simp only[tt,seval]
    refine fun _=>ab (fun hl=>?_) (fun hl=>?_)
    ·have hl:z.size<400:=by omega
     rw[iA aa]
     simp only[tt,seval]
     rw[iA (by rw[ByteArray.size_append];show z.size+z.size+10<=_;omega)]
     simp only[tt,seval]
     have hz3:(z++z++DG).size=2*z.size+10:=by rw[ByteArray.size_append,ByteArray.size_append];show z.size+z.size+10=_;omega
     refine⟨[(9000,.str (Cur.cs cf)),(3,.str [.v (.int .i64 k),.v (.int .i64 n),.v (.string (z++z++DG))]),(2,.str [.v (.int .i64 0),.v (.int .i64 0),.v (.string ByteArray.empty)])],none,by simp only[Cur.cs];exact ak rfl (ak rfl (ak rfl (ap _))),au _,⟨cf,z++z++DG,ig,aa,rfl,rfl⟩,?_⟩
     show 1000-(z++z++DG).size<1000-z.size
     omega
    ·try simp only[tt,seval,Cur.cs,fw,Val.row]
     refine⟨.ag (aw (Val.mk k n z).row),[Cur.cs cf],⟨cf,⟨⟨k,n,z⟩,rfl,hw,(show z.size<=1000 by omega)⟩,rfl,ig⟩,aq ?_⟩
     simp only[tt,seval,Cur.cs,Val.row]
 ·try simp only[tt,seval,Cur.cs,fw,Val.row]
  refine⟨.ag (aw (Val.mk k n x).row),[Cur.cs c2],⟨c2,⟨⟨k,n,x⟩,rfl,hw,(show x.size<=1000 by omega)⟩,rfl,i2⟩,aq ?_⟩
  simp only[tt,seval,Cur.cs,Val.row]
end
end Go.Proofs.YtdmomaomffhidaaGreatDoor
set_option maxRecDepth 8000
namespace Go.Proofs.YtdmomaomffhidaaGreatDoor
open Go Go.Dv
open Go.Vc (D dm dq cV bq)
open Go.Cv (av ff)
section
variable [CodeOut]
def KG (d:Nat) (r:S):Prop:=∃(e:Expr) (Fk Fs:List (List Nat)),r = .ag (av e.row [Fk,Fs])/\DrE d e
set_option maxHeartbeats 4000000 in
theorem qN (d:Nat) (c:Cur) (h0:0<=c.i):Cl Tryz.prog 77 [.c (.p 9000 0)] [c.cs] (th (KG d)):=by
 refine ai ac true Tryz.func77 rfl ae ?_
 simp only[Tryz.f77,tt,seval]
 refine gQ [5] ?_
 simp only[tt,seval,Cur.cs]
 intro GF5
 refine Call1.intro (fX c h0 [⟨#[97]⟩,⟨#[98]⟩,⟨#[99]⟩,⟨#[105,100]⟩,⟨#[110,97,109,101]⟩] ah) ?_ ?_ ?_
 ·decide
 ·simp only[tt,seval,Cur.cs,srow]
 rintro r os ⟨c2,⟨s,hs,rfl⟩,rfl,ic2⟩ hos
 simp only[tt,seval,Cur.cs,srow]
 have hs2:bJ s=true:=(by decide:∀s∈[⟨#[97]⟩,⟨#[98]⟩,⟨#[99]⟩,⟨#[105,100]⟩,⟨#[110,97,109,101]⟩],bJ s=true) s hs
 refine CallQ.intro (bT c2 ic2 3) ?_ ?_ ?_
 ·decide
 ·simp only[tt,seval,Cur.cs,fw]
 rintro r os ⟨c3,⟨b,rfl⟩,rfl,i3⟩ hos
 simp only[tt,seval,Cur.cs,fw]
 refine ab (fun hb=>?_) (fun hb=>?_)
 ·skip
  refine gQ [11] ?_
  simp only[tt,seval]
  intro GF11
  refine Call1.intro (fX c3 i3 [⟨#[116]⟩,⟨#[117]⟩,⟨#[118]⟩] ah) ?_ ?_ ?_
  ·decide
  ·simp only[tt,seval,Cur.cs,srow]
  rintro r os ⟨c4,⟨q,hq,rfl⟩,rfl,ic4⟩ hos
  simp only[tt,seval,Cur.cs,srow]
  have hq2:dc q=true:=(by decide:∀s∈[⟨#[116]⟩,⟨#[117]⟩,⟨#[118]⟩],dc s=true) q hq
  refine CallQ.intro (bT c4 ic4 12) ?_ ?_ ?_
  ·decide
  ·simp only[tt,seval,Cur.cs]
  rintro r os ⟨c7,⟨b7,rfl⟩,rfl,i7⟩ hos
  simp only[tt,seval,Cur.cs]
  refine ab (fun hb7=>?_) (fun hb7=>?_)
  ·skip
   refine CallQ.intro (mm c7 i7) ?_ ?_ ?_
   ·decide
   ·simp only[tt,seval,Cur.cs]
   rintro r os ⟨c8,⟨s8,rfl,hs8⟩,rfl,i8⟩ hos
   simp only[tt,seval,Cur.cs]
   refine⟨.ag (av (Expr.mk 2 0 false ⟨0,0,⟨#[]⟩⟩ q s8 [] []).row [[],[]]),[c8.cs],⟨c8,⟨_,[],[],rfl,DrE.col (hs8) (hq2) d⟩,rfl,i8⟩,aq ?_⟩
   simp only[tt,seval,am,Cur.cs,av]
   first|done|exact Ko
  ·skip
   refine⟨.ag (av (Expr.mk 2 0 false ⟨0,0,⟨#[]⟩⟩ q s [] []).row [[],[]]),[c7.cs],⟨c7,⟨_,[],[],rfl,DrE.col (hs2) (hq2) d⟩,rfl,i7⟩,aq ?_⟩
   simp only[tt,seval,am,Cur.cs,av]
   first|done|exact Ko
 ·skip
  refine CallQ.intro (bT c3 i3 12) ?_ ?_ ?_
  ·decide
  ·simp only[tt,seval,Cur.cs]
  rintro r os ⟨c7,⟨b7,rfl⟩,rfl,i7⟩ hos
  simp only[tt,seval,Cur.cs]
  refine ab (fun hb7=>?_) (fun hb7=>?_)
  ·skip
   refine CallQ.intro (mm c7 i7) ?_ ?_ ?_
   ·decide
   ·simp only[tt,seval,Cur.cs]
   rintro r os ⟨c8,⟨s8,rfl,hs8⟩,rfl,i8⟩ hos
   simp only[tt,seval,Cur.cs]
   refine⟨.ag (av (Expr.mk 2 0 false ⟨0,0,⟨#[]⟩⟩ ⟨#[]⟩ s8 [] []).row [[],[]]),[c8.cs],⟨c8,⟨_,[],[],rfl,DrE.col (hs8) (ah) d⟩,rfl,i8⟩,aq ?_⟩
   simp only[tt,seval,am,Cur.cs,av]
   first|done|exact y5
  ·skip
   refine⟨.ag (av (Expr.mk 2 0 false ⟨0,0,⟨#[]⟩⟩ ⟨#[]⟩ s [] []).row [[],[]]),[c7.cs],⟨c7,⟨_,[],[],rfl,DrE.col (hs2) (ah) d⟩,rfl,i7⟩,aq ?_⟩
   simp only[tt,seval,am,Cur.cs,av]
   first|done|exact y5
end
section
variable [CodeOut]
theorem JC (l:List Expr) (k0 o0:Int) (n0:Bool) (v0:Val) (q0 m0:ByteArray) (ks0:List Expr) (ss0:List Query):l.flatMap Expr.row++[int k0,int o0,bool n0,int v0.kind,int v0.num,str v0.text,str q0,str m0,.sl ks0.length (ks0.flatMap Expr.row),.sl ss0.length (ss0.flatMap Query.row)]=(l++[Expr.mk k0 o0 n0 v0 q0 m0 ks0 ss0]).flatMap Expr.row:=by
 rw[List.flatMap_append,List.flatMap_cons,List.flatMap_nil,List.append_nil,am]
def JD (d:Nat):Prop:=∀(c:Cur) (_:0<=c.i),Cl Tryz.prog 80 [.c (.p 9000 0),vi d] [c.cs] (th (KG d))
def Lz (d:Nat) (r:S):Prop:=∃(q:Query) (F1 F2 F3 F4:List (List Nat)),r = .ag (av q.row [F1,F2,F3,F4])/\DrQ d q
def Iv (d:Nat):Prop:=∀(c:Cur) (_:0<=c.i),Cl Tryz.prog 73 [.c (.p 9000 0),vi d] [c.cs] (th (Lz d))
def KH (d n:Nat) (r:S):Prop:=∃(l:List Expr) (F:List (List Nat)),r = .c (.ow 46 l.length (l.flatMap Expr.row) (some F))/\l.length=n/\∀x,x∈l->DrE d x
set_option maxHeartbeats 2000000 in
theorem xD (d:Nat) (hd9:d<=100) (hE:JD d) (n:Nat) (hn:n<=100) (c:Cur) (h0:0<=c.i):Cl Tryz.prog 172 [.c (.p 9000 0),vi (d+1:Nat),vi n] [c.cs] (th (KH d n)):=by
 have hdd:IntKind.i64.wrap (((d+1:Nat):Int)-1)=d:=by rw[aE aa aa];omega
 refine ai ac true Tryz.func172 rfl ae ?_
 simp only[Tryz.f172,tt,seval]
 refine dLoop.gh [.ren 9 21] ⟨ah,ah,?_⟩
 refine dLoop0.intro (fun f L p=>∃(i:Nat) (l:List Expr) (c':Cur) (Fl Pl:List (List Nat)),f 8=vi i/\f 7 = .c (.s 21 l.length)/\l.length=i/\i<=n/\(∀x,x∈l->DrE d x)/\0<=c'.i/\Sb Fl.flatten Pl.flatten/\L=[(21,.arr 46 (l).length ((l).flatMap Expr.row) (some (Fl))),(9000,.str c'.cs)]/\p=some Pl) (fun f _ _=>(n-fH (f 8)).toNat) [(21,.arr 46 (([]:List Expr)).length ((([]:List Expr)).flatMap Expr.row) (some ([]))),(9000,.str c.cs)] (some []) ⟨ak rfl (ak rfl (ap _)),PoSub.refl _,?_⟩ ?_
 ·simp only[tt,seval]
  exact⟨0,[],c,[],[],rfl,rfl,rfl,Nat.zero_le _,(fun x h=>by cases h),h0,Sb.refl _,rfl,rfl⟩
 ·rintro g L p ⟨i,l,c1,Fl,Pl,h8,h7,hl,hi,hal,i1,hsb,rfl,rfl⟩
  simp only[tt,seval] at h8 h7
  simp only[tt,seval,h8,h7,hdd,Int.ofNat_lt]
  refine ab (fun hlt=>?_) (fun hge=>?_)
  ·try simp only[tt,seval,h8,h7,hdd]
   refine CallQ.intro (hE c1 i1) ?_ ?_ ?_
   ·decide
   ·simp only[tt,seval,Cur.cs]
   rintro r os ⟨c2,⟨⟨k,o,nn,v,q,m,ks,ss⟩,Fk,Fs,rfl,he⟩,rfl,i2⟩ hos
   simp only[tt,seval,h8,am,Cur.cs,av]
   refine qA ?_
   rw[JC,show l.length+1=(l++[Expr.mk k o nn v q m ks ss]).length by simp]
   try rw[eR i aa]
   exact⟨[(21,.arr 46 (l++[Expr.mk k o nn v q m ks ss]).length ((l++[Expr.mk k o nn v q m ks ss]).flatMap Expr.row) (some (Fl++(Fk++Fs)))),(9000,.str c2.cs)],some (Pl++(Fk++Fs)),ak rfl (ak rfl (ap _)),PoSub.refl _,⟨i+1,l++[Expr.mk k o nn v q m ks ss],c2,_,_,rfl,rfl,by simp [hl],aa,fun x hx=>by
    rcases List.mem_append.1 hx with h|h
    ·exact hal x h
    ·rw[List.mem_singleton.1 h];exact he,i2,fun x=>by have:=hsb x;simp only[List.flatten_append,List.count_append] at this ⊢;omega,rfl,rfl⟩,az⟩
  ·try simp only[tt,seval,h8,h7]
   refine⟨.c (.ow 46 l.length (l.flatMap Expr.row) (some Fl)),[c1.cs],⟨c1,⟨l,Fl,rfl,aa,hal⟩,rfl,i1⟩,aq ?_⟩
   simp only[tt,seval,Cur.cs]
   exact hsb
end
section
variable [CodeOut]
set_option maxHeartbeats 8000000 in
theorem xE (d:Nat) (hd9:d<=50) (hK:∀d2,d=d2+1->∀(n:Nat) (m:Int),m=n->n<=100->∀(c:Cur) (_:0<=c.i),Cl Tryz.prog 172 [.c (.p 9000 0),vi d,vi m] [c.cs] (th (KH d2 n))) (hQ:∀d3,d=d3+2->Iv d3):JD d:=by
 intro c h0
 have hdd:True:=trivial
 have hdd2:True:=trivial
 refine ai ac true Tryz.func80 rfl ae ?_
 simp only[Tryz.f80,tt,seval]
 by_cases hd0:(d:Int)<=0
 ·simp only[tt,seval,ax hd0]
  refine CallQ.intro (bT c h0 2) ?_ ?_ ?_
  ·decide
  ·simp only[tt,seval,Cur.cs,fw]
  rintro r os ⟨c5,⟨b5,rfl⟩,rfl,i5⟩ hos
  simp only[tt,seval,Cur.cs,fw]
  refine ab (fun hb5=>?_) (fun hb5=>?_)
  ·skip
   refine CallQ.intro (qN d c5 i5) ?_ ?_ ?_
   ·decide
   ·simp only[tt,seval,Cur.cs]
   rintro r os ⟨c6,⟨⟨k,o,n,v,q,m,ks,ss⟩,Fk,Fs,rfl,he⟩,rfl,i6⟩ hos
   simp only[tt,seval,am,Cur.cs,av]
   refine⟨.ag (av (Expr.mk k o n v q m ks ss).row [Fk,Fs]),[c6.cs],⟨c6,⟨_,Fk,Fs,rfl,he⟩,rfl,i6⟩,aq ?_⟩
   simp only[tt,seval,am,Cur.cs,av]
   first|done|exact mu
  ·skip
   refine CallQ.intro (uh c5 i5) ?_ ?_ ?_
   ·decide
   ·simp only[tt,seval,Cur.cs]
   rintro r os ⟨c6,⟨⟨k,n,x⟩,rfl,hv⟩,rfl,i6⟩ hos
   simp only[tt,seval,Cur.cs,fw,Val.row]
   refine⟨.ag (av (Expr.mk 1 0 false ⟨k,n,x⟩ ⟨#[]⟩ ⟨#[]⟩ [] []).row [[],[]]),[c6.cs],⟨c6,⟨_,[],[],rfl,DrE.lit hv.1 hv.2.1 hv.2.2 d⟩,rfl,i6⟩,aq ?_⟩
   simp only[tt,seval,am,Cur.cs,av]
   first|done|exact y5
 ·simp only[tt,seval,aB hd0]
  refine CallQ.intro (bT c h0 5) ?_ ?_ ?_
  ·decide
  ·simp only[tt,seval,Cur.cs,fw]
  rintro r os ⟨c1,⟨b1,rfl⟩,rfl,i1⟩ hos
  simp only[tt,seval,Cur.cs,fw]
  refine ab (fun hb1=>?_) (fun hb1=>?_)
  ·try simp only[tt,seval]
   refine CallQ.intro (bT c1 i1 2) ?_ ?_ ?_
   ·decide
   ·simp only[tt,seval,Cur.cs]
   rintro r os ⟨c5,⟨b5,rfl⟩,rfl,i5⟩ hos
   simp only[tt,seval,Cur.cs]
   refine ab (fun hb5=>?_) (fun hb5=>?_)
   ·skip
    refine CallQ.intro (qN d c5 i5) ?_ ?_ ?_
    ·decide
    ·simp only[tt,seval,Cur.cs]
    rintro r os ⟨c6,⟨⟨k,o,n,v,q,m,ks,ss⟩,Fk,Fs,rfl,he⟩,rfl,i6⟩ hos
    simp only[tt,seval,am,Cur.cs,av]
    refine⟨.ag (av (Expr.mk k o n v q m ks ss).row [Fk,Fs]),[c6.cs],⟨c6,⟨_,Fk,Fs,rfl,he⟩,rfl,i6⟩,aq ?_⟩
    simp only[tt,seval,am,Cur.cs,av]
    first|done|exact mu
   ·skip
    refine CallQ.intro (uh c5 i5) ?_ ?_ ?_
    ·decide
    ·simp only[tt,seval,Cur.cs]
    rintro r os ⟨c6,⟨⟨k,n,x⟩,rfl,hv⟩,rfl,i6⟩ hos
    simp only[tt,seval,Cur.cs,fw,Val.row]
    refine⟨.ag (av (Expr.mk 1 0 false ⟨k,n,x⟩ ⟨#[]⟩ ⟨#[]⟩ [] []).row [[],[]]),[c6.cs],⟨c6,⟨_,[],[],rfl,DrE.lit hv.1 hv.2.1 hv.2.2 d⟩,rfl,i6⟩,aq ?_⟩
    simp only[tt,seval,am,Cur.cs,av]
    first|done|exact y5
  ·try simp only[tt,seval]
   obtain⟨d2,hd⟩:∃d2,d2+1=d:=⟨d-1,aa⟩
   have hK:=hK d2 hd.symm
   refine CallQ.intro (bj c1 i1 12) ?_ ?_ ?_
   ·decide
   ·simp only[tt,seval,Cur.cs]
   rintro r os ⟨x,c2,rfl,rfl,hx,i2⟩ hos
   simp only[tt,seval,Cur.cs]
   refine ab (fun hx0=>?_) (fun hx0=>?_)
   ·try simp only[tt,seval,Cur.cs,fw,hdd,hdd2]
    refine CallQ.intro (hK (1) (1) (rfl) aa c2 i2) ?_ ?_ ?_
    ·decide
    ·simp only[tt,seval,Cur.cs]
    rintro r os ⟨c3,⟨l,F,rfl,hll,hal⟩,rfl,ic3⟩ hos
    simp only[tt,seval,Cur.cs,fw]
    intro G
    refine⟨.ag (av (Expr.mk 3 15 false ⟨0,0,⟨#[]⟩⟩ ⟨#[]⟩ ⟨#[]⟩ l []).row [(G::F),[]]),[c3.cs],⟨c3,⟨_,(G::F),[],rfl,hd▸DrE.kids (by simp [aF,cO,bQ,zV,hll]) aa hal⟩,rfl,ic3⟩,aq ?_⟩
    simp only[tt,seval,am,Cur.cs,av]
    first|done|exact Gu
   ·try simp only[tt,seval,Cur.cs,fw,hdd,hdd2]
    refine ab (fun hx1=>?_) (fun hx1=>?_)
    ·try simp only[tt,seval,Cur.cs,fw,hdd,hdd2]
     refine CallQ.intro (hK (1) (1) (rfl) aa c2 i2) ?_ ?_ ?_
     ·decide
     ·simp only[tt,seval,Cur.cs]
     rintro r os ⟨c3,⟨l,F,rfl,hll,hal⟩,rfl,ic3⟩ hos
     simp only[tt,seval,Cur.cs,fw]
     intro G
     refine⟨.ag (av (Expr.mk 3 16 false ⟨0,0,⟨#[]⟩⟩ ⟨#[]⟩ ⟨#[]⟩ l []).row [(G::F),[]]),[c3.cs],⟨c3,⟨_,(G::F),[],rfl,hd▸DrE.kids (by simp [aF,cO,bQ,zV,hll]) aa hal⟩,rfl,ic3⟩,aq ?_⟩
     simp only[tt,seval,am,Cur.cs,av]
     first|done|exact Gu
    ·try simp only[tt,seval,Cur.cs,fw,hdd,hdd2]
     refine ab (fun hx2=>?_) (fun hx2=>?_)
     ·try simp only[tt,seval,Cur.cs,fw,hdd,hdd2]
      refine CallQ.intro (bT c2 i2 2) ?_ ?_ ?_
      ·decide
      ·simp only[tt,seval,Cur.cs]
      rintro r os ⟨c3,⟨bn,rfl⟩,rfl,ic3⟩ hos
      simp only[tt,seval,Cur.cs]
      refine CallQ.intro (hK (1) (1) (rfl) aa c3 ic3) ?_ ?_ ?_
      ·decide
      ·simp only[tt,seval,Cur.cs]
      rintro r os ⟨c4,⟨l,F,rfl,hll,hal⟩,rfl,ic4⟩ hos
      simp only[tt,seval,Cur.cs,fw]
      intro G
      refine⟨.ag (av (Expr.mk 5 0 bn ⟨0,0,⟨#[]⟩⟩ ⟨#[]⟩ ⟨#[]⟩ l []).row [(G::F),[]]),[c4.cs],⟨c4,⟨_,(G::F),[],rfl,hd▸DrE.kids (by simp [aF,cO,bQ,zV,hll]) aa hal⟩,rfl,ic4⟩,aq ?_⟩
      simp only[tt,seval,am,Cur.cs,av]
      first|done|exact Gu
     ·try simp only[tt,seval,Cur.cs,fw,hdd,hdd2]
      refine ab (fun hx3=>?_) (fun hx3=>?_)
      ·try simp only[tt,seval,Cur.cs,fw,hdd,hdd2]
       refine CallQ.intro (bT c2 i2 2) ?_ ?_ ?_
       ·decide
       ·simp only[tt,seval,Cur.cs]
       rintro r os ⟨c3,⟨bn,rfl⟩,rfl,ic3⟩ hos
       simp only[tt,seval,Cur.cs]
       refine CallQ.intro (hK (3) (3) (rfl) aa c3 ic3) ?_ ?_ ?_
       ·decide
       ·simp only[tt,seval,Cur.cs]
       rintro r os ⟨c4,⟨l,F,rfl,hll,hal⟩,rfl,ic4⟩ hos
       simp only[tt,seval,Cur.cs,fw]
       intro G
       refine⟨.ag (av (Expr.mk 6 0 bn ⟨0,0,⟨#[]⟩⟩ ⟨#[]⟩ ⟨#[]⟩ l []).row [(G::F),[]]),[c4.cs],⟨c4,⟨_,(G::F),[],rfl,hd▸DrE.kids (by simp [aF,cO,bQ,zV,hll]) aa hal⟩,rfl,ic4⟩,aq ?_⟩
       simp only[tt,seval,am,Cur.cs,av]
       first|done|exact Gu
      ·try simp only[tt,seval,Cur.cs,fw,hdd,hdd2]
       refine ab (fun hx4=>?_) (fun hx4=>?_)
       ·try simp only[tt,seval,Cur.cs,fw,hdd,hdd2]
        refine CallQ.intro (bT c2 i2 2) ?_ ?_ ?_
        ·decide
        ·simp only[tt,seval,Cur.cs]
        rintro r os ⟨c3,⟨bn,rfl⟩,rfl,ic3⟩ hos
        simp only[tt,seval,Cur.cs]
        refine CallQ.intro (bj c3 ic3 2) ?_ ?_ ?_
        ·decide
        ·simp only[tt,seval,Cur.cs]
        rintro r os ⟨y,c4,rfl,rfl,hy,i4⟩ hos
        simp only[tt,seval,Cur.cs]
        have hy2:=hy.2 aa
        obtain⟨yn,rfl⟩:∃yn:Nat,y=yn:=⟨y.toNat,aa⟩
        rw[aE (n:=(2:Int)+(yn:Int)) aa aa]
        refine CallQ.intro (hK (2+yn) ((2:Int)+(yn:Int)) aa aa c4 i4) ?_ ?_ ?_
        ·decide
        ·simp only[tt,seval,Cur.cs]
        rintro r os ⟨c7,⟨l,F,rfl,hll,hal⟩,rfl,ic7⟩ hos
        simp only[tt,seval,Cur.cs,fw]
        have hsh:aF 7 0 bn ⟨0,0,⟨#[]⟩⟩ ⟨#[]⟩ ⟨#[]⟩ l.length 0=true:=by
         have:yn=0∨yn=1:=by omega
         rcases this with rfl|rfl<;>simp [aF,cO,bQ,zV,hll]
        intro G
        refine⟨.ag (av (Expr.mk 7 0 bn ⟨0,0,⟨#[]⟩⟩ ⟨#[]⟩ ⟨#[]⟩ l []).row [(G::F),[]]),[c7.cs],⟨c7,⟨_,(G::F),[],rfl,hd▸DrE.kids hsh aa hal⟩,rfl,ic7⟩,aq ?_⟩
        simp only[tt,seval,am,Cur.cs,av]
        first|done|exact Gu
       ·try simp only[tt,seval,Cur.cs,fw,hdd,hdd2]
        refine ab (fun hx5=>?_) (fun hx5=>?_)
        ·try simp only[tt,seval,Cur.cs,fw,hdd,hdd2]
         refine ab (fun hg=>?_) (fun hg=>?_)
         ·obtain⟨d3,hd3⟩:∃d3,d2=d3+1:=⟨d2-1,aa⟩
          have hdq:IntKind.i64.wrap ((d:Int)-2)=d3:=by rw[aE aa aa];omega
          refine CallQ.intro (bT c2 i2 2) ?_ ?_ ?_
          ·decide
          ·simp only[tt,seval,Cur.cs]
          rintro r os ⟨c3,⟨bn,rfl⟩,rfl,ic3⟩ hos
          simp only[tt,seval,Cur.cs]
          refine CallQ.intro (hK (1) (1) (rfl) aa c3 ic3) ?_ ?_ ?_
          ·decide
          ·simp only[tt,seval,Cur.cs]
          rintro r os ⟨c4,⟨l,F,rfl,hll,hal⟩,rfl,ic4⟩ hos
          simp only[tt,seval,Cur.cs]
          simp only[seval,hdq]
          refine CallQ.intro (hQ d3 aa c4 ic4) ?_ ?_ ?_
          ·decide
          ·simp only[tt,seval,Cur.cs]
          rintro r os ⟨c7,⟨⟨qd,qi,qf,qw,qo,ql⟩,F1,F2,F3,F4,rfl,hq⟩,rfl,i7⟩ hos
          simp only[tt,seval,aG,Cur.cs,fw,av]
          intro G G2
          refine⟨.ag (av (Expr.mk 8 0 bn ⟨0,0,⟨#[]⟩⟩ ⟨#[]⟩ ⟨#[]⟩ l [(Query.mk qd qi qf qw qo ql)]).row [(G::F),(G2::(F1++(F2++(F3++F4))))]),[c7.cs],⟨c7,⟨_,(G::F),(G2::(F1++(F2++(F3++F4)))),rfl,(show d3+2=d by omega)▸DrE.sub (by simp [aF,cO,bQ,zV,hll]) aa (fun x hx=>hd3▸hal x hx) hq⟩,rfl,i7⟩,aq ?_⟩
          simp only[tt,seval,am,aG,Cur.cs,av]
          first|done|exact Kq
         ·try simp only[tt,seval,Cur.cs,fw,hdd,hdd2]
          refine CallQ.intro (bj c2 i2 14) ?_ ?_ ?_
          ·decide
          ·simp only[tt,seval,Cur.cs]
          rintro r os ⟨y,c4,rfl,rfl,hy,i4⟩ hos
          simp only[tt,seval,Cur.cs]
          have hy2:=hy.2 aa
          rw[aE (n:=(1:Int)+y) aa aa]
          refine CallQ.intro (hK (2) (2) (rfl) aa c4 i4) ?_ ?_ ?_
          ·decide
          ·simp only[tt,seval,Cur.cs]
          rintro r os ⟨c7,⟨l,F,rfl,hll,hal⟩,rfl,ic7⟩ hos
          simp only[tt,seval,Cur.cs,fw]
          intro G
          refine⟨.ag (av (Expr.mk 4 ((1:Int)+y) false ⟨0,0,⟨#[]⟩⟩ ⟨#[]⟩ ⟨#[]⟩ l []).row [(G::F),[]]),[c7.cs],⟨c7,⟨_,(G::F),[],rfl,hd▸DrE.kids (by simp [aF,cO,bQ,zV,hll];omega) aa hal⟩,rfl,ic7⟩,aq ?_⟩
          simp only[tt,seval,am,Cur.cs,av]
          first|done|exact Gu
        ·try simp only[tt,seval,Cur.cs,fw,hdd,hdd2]
         refine ab (fun hx6=>?_) (fun hx6=>?_)
         ·try simp only[tt,seval,Cur.cs,fw,hdd,hdd2]
          refine ab (fun hg=>?_) (fun hg=>?_)
          ·obtain⟨d3,hd3⟩:∃d3,d2=d3+1:=⟨d2-1,aa⟩
           have hdq:IntKind.i64.wrap ((d:Int)-2)=d3:=by rw[aE aa aa];omega
           simp only[seval,hdq]
           refine CallQ.intro (hQ d3 aa c2 i2) ?_ ?_ ?_
           ·decide
           ·simp only[tt,seval,Cur.cs]
           rintro r os ⟨c7,⟨⟨qd,qi,qf,qw,qo,ql⟩,F1,F2,F3,F4,rfl,hq⟩,rfl,i7⟩ hos
           simp only[tt,seval,aG,Cur.cs,fw,av]
           intro G
           refine⟨.ag (av (Expr.mk 9 0 false ⟨0,0,⟨#[]⟩⟩ ⟨#[]⟩ ⟨#[]⟩ [] [(Query.mk qd qi qf qw qo ql)]).row [[],(G::(F1++(F2++(F3++F4))))]),[c7.cs],⟨c7,⟨_,[],(G::(F1++(F2++(F3++F4)))),rfl,(show d3+2=d by omega)▸DrE.sub (by simp [aF,cO,bQ,zV]) (by simp) (fun x hx=>by cases hx) hq⟩,rfl,i7⟩,aq ?_⟩
           simp only[tt,seval,am,aG,Cur.cs,av]
           first|done|exact mu
          ·try simp only[tt,seval,Cur.cs,fw,hdd,hdd2]
           refine CallQ.intro (bj c2 i2 14) ?_ ?_ ?_
           ·decide
           ·simp only[tt,seval,Cur.cs]
           rintro r os ⟨y,c4,rfl,rfl,hy,i4⟩ hos
           simp only[tt,seval,Cur.cs]
           have hy2:=hy.2 aa
           rw[aE (n:=(1:Int)+y) aa aa]
           refine CallQ.intro (hK (2) (2) (rfl) aa c4 i4) ?_ ?_ ?_
           ·decide
           ·simp only[tt,seval,Cur.cs]
           rintro r os ⟨c7,⟨l,F,rfl,hll,hal⟩,rfl,ic7⟩ hos
           simp only[tt,seval,Cur.cs,fw]
           intro G
           refine⟨.ag (av (Expr.mk 4 ((1:Int)+y) false ⟨0,0,⟨#[]⟩⟩ ⟨#[]⟩ ⟨#[]⟩ l []).row [(G::F),[]]),[c7.cs],⟨c7,⟨_,(G::F),[],rfl,hd▸DrE.kids (by simp [aF,cO,bQ,zV,hll];omega) aa hal⟩,rfl,ic7⟩,aq ?_⟩
           simp only[tt,seval,am,Cur.cs,av]
           first|done|exact Gu
         ·try simp only[tt,seval,Cur.cs,fw,hdd,hdd2]
          refine CallQ.intro (bj c2 i2 14) ?_ ?_ ?_
          ·decide
          ·simp only[tt,seval,Cur.cs]
          rintro r os ⟨y,c4,rfl,rfl,hy,i4⟩ hos
          simp only[tt,seval,Cur.cs]
          have hy2:=hy.2 aa
          rw[aE (n:=(1:Int)+y) aa aa]
          refine CallQ.intro (hK (2) (2) (rfl) aa c4 i4) ?_ ?_ ?_
          ·decide
          ·simp only[tt,seval,Cur.cs]
          rintro r os ⟨c7,⟨l,F,rfl,hll,hal⟩,rfl,ic7⟩ hos
          simp only[tt,seval,Cur.cs,fw]
          intro G
          refine⟨.ag (av (Expr.mk 4 ((1:Int)+y) false ⟨0,0,⟨#[]⟩⟩ ⟨#[]⟩ ⟨#[]⟩ l []).row [(G::F),[]]),[c7.cs],⟨c7,⟨_,(G::F),[],rfl,hd▸DrE.kids (by simp [aF,cO,bQ,zV,hll];omega) aa hal⟩,rfl,ic7⟩,aq ?_⟩
          simp only[tt,seval,am,Cur.cs,av]
          first|done|exact Gu
end
section
variable [CodeOut]
set_option maxHeartbeats 16000000 in
theorem vA (d:Nat) (hd9:d<=50) (hE:JD d):Iv d:=by
 intro c h0
 refine ai ac true Tryz.func73 rfl ae ?_
 simp only[Tryz.f73,tt,seval]
 refine CallQ.intro (bT c h0 4) ?_ ?_ ?_
 ·decide
 ·simp (maxSteps:=9999999) only[tt,seval,Cur.cs]
 rintro r os ⟨c1,⟨di,rfl⟩,rfl,i1⟩ hos
 simp (maxSteps:=9999999) only[tt,seval,Cur.cs]
 refine CallQ.intro (bj c1 i1 2) ?_ ?_ ?_
 ·decide
 ·simp (maxSteps:=9999999) only[tt,seval,Cur.cs]
 rintro r os ⟨y,c2,rfl,rfl,hy,i2⟩ hos
 simp (maxSteps:=9999999) only[tt,seval,Cur.cs]
 have hy2:=hy.2 aa
 obtain⟨n0,hn0⟩:∃n0:Nat,(1:Int)+y=n0:=⟨((1:Int)+y).toNat,aa⟩
 rw[aE (n:=(1:Int)+y) aa aa,hn0]
 have hn01:1<=n0:=by omega
 have hn02:n0<=2:=by omega
 clear hn0 hy hy2
 refine dLoop.gh [.virtC 5 1 10045 78] ⟨ah,?_⟩
 simp (maxSteps:=9999999) only[tt,seval]
 refine dLoop0.introR (fun f L p=>∃(i:Nat) (l:List Item) (c':Cur) (Fl Pl:List (List Nat)),f 7=vi i/\l.length=i/\i<=n0/\(∀x,x∈l->ItOk d x)/\0<=c'.i/\Sb Fl.flatten Pl.flatten/\L=[(9000,.str c'.cs),(5,.str [.v (.bool di),.s 10045 (l).length,.v (.slice none 0 0),.v (.slice none 0 0),.v (.slice none 0 0),.v (.int .i64 (-1))]),(10045,.arr 78 (l).length ((l).flatMap Item.row) (some (Fl))),(4,.str [.v (.bool false),.v (.slice none 0 0),.v (.slice none 0 0),.v (.slice none 0 0),.v (.slice none 0 0),.v (.int .i64 0)])]/\p=some Pl) (fun f _ _=>(n0-fH (f 7)).toNat) [(9000,.str c2.cs),(5,.str [.v (.bool di),.s 10045 (([]:List Item)).length,.v (.slice none 0 0),.v (.slice none 0 0),.v (.slice none 0 0),.v (.int .i64 (-1))]),(10045,.arr 78 (([]:List Item)).length ((([]:List Item)).flatMap Item.row) (some ([]))),(4,.str [.v (.bool false),.v (.slice none 0 0),.v (.slice none 0 0),.v (.slice none 0 0),.v (.slice none 0 0),.v (.int .i64 0)])] (some []) ⟨ak rfl (ak rfl (ak rfl (ak rfl (ap _)))),PoSub.refl _,?_⟩ ?_
 ·simp (maxSteps:=9999999) only[tt,seval]
  exact⟨0,[],c2,[],[],rfl,rfl,Nat.zero_le _,(fun x h=>by cases h),i2,Sb.refl _,rfl,rfl⟩
 ·rintro g L p ⟨i,l,c3,Fl,Pl,h7,hl,hi,hal,i3,hsb,rfl,rfl⟩
  simp (maxSteps:=9999999) only[tt,seval] at h7
  simp (maxSteps:=9999999) only[tt,seval,h7,Int.ofNat_lt]
  refine ab (fun hlt=>?_) (fun hge=>?_)
  ·try simp (maxSteps:=9999999) only[seval,Cur.cs]
   refine CallQ.intro (bj c3 i3 5) ?_ ?_ ?_
   ·decide
   ·simp (maxSteps:=9999999) only[tt,seval,Cur.cs]
   rintro r os ⟨x,c4,rfl,rfl,hx,i4⟩ hos
   simp (maxSteps:=9999999) only[tt,seval,h7,Cur.cs,fw]
   refine ab (fun hx0=>?_) (fun hx0=>ab (fun hx1=>?_) (fun hx1=>?_))
   ·try simp (maxSteps:=9999999) only[tt,seval,h7,Cur.cs,fw,av,Val.row,lc]
    refine qA ?_
    try rw[eR i aa]
    refine⟨[.ren 45 10045],ah,ah,?_⟩
    simp (maxSteps:=9999999) only[tt,seval,oF]
    refine⟨[(9000,.str c4.cs),(5,.str [.v (.bool di),.s 10045 (l++[(Item.mk true ⟨#[]⟩ (.mk 0 0 false ⟨0,0,⟨#[]⟩⟩ ⟨#[]⟩ ⟨#[]⟩ [] []) ⟨#[]⟩)]).length,.v (.slice none 0 0),.v (.slice none 0 0),.v (.slice none 0 0),.v (.int .i64 (-1))]),(10045,.arr 78 (l++[(Item.mk true ⟨#[]⟩ (.mk 0 0 false ⟨0,0,⟨#[]⟩⟩ ⟨#[]⟩ ⟨#[]⟩ [] []) ⟨#[]⟩)]).length ((l++[(Item.mk true ⟨#[]⟩ (.mk 0 0 false ⟨0,0,⟨#[]⟩⟩ ⟨#[]⟩ ⟨#[]⟩ [] []) ⟨#[]⟩)]).flatMap Item.row) (some (Fl))),(4,.str [.v (.bool false),.v (.slice none 0 0),.v (.slice none 0 0),.v (.slice none 0 0),.v (.slice none 0 0),.v (.int .i64 0)])],some (Pl),by simp only[Item.row_mk,am,lc,List.append_nil,List.flatMap_append,List.flatMap_cons,List.flatMap_nil,aD,List.length_cons,List.length_nil,Cur.cs];exact ak rfl (ak rfl (ak rfl (ak rfl (ap _)))),PoSub.refl _,⟨i+1,l++[(Item.mk true ⟨#[]⟩ (.mk 0 0 false ⟨0,0,⟨#[]⟩⟩ ⟨#[]⟩ ⟨#[]⟩ [] []) ⟨#[]⟩)],c4,Fl,Pl,by simp,by simp [hl],aa,fun x hx=>by
     rcases List.mem_append.1 hx with h|h
     ·exact hal x h
     ·rw[List.mem_singleton.1 h];exact ItOk.star ah,i4,fun x=>by have:=hsb x;(try simp only[fb] at this ⊢);omega,rfl,rfl⟩,az⟩
   ·try simp (maxSteps:=9999999) only[tt,seval,h7,Cur.cs,fw,av,Val.row,lc]
    refine dDrawn.intro [53] (.take 0 (.take 2 (.br 1 (.br 3 (.br 4 (.take 5 (.br 6 (.br 7 (.take 8 (.br 9 .done .nobr)) .nobr) .nobr)) .nobr) .nobr) (.br 3 (.br 1 (.br 4 (.take 5 (.br 6 (.br 7 (.take 8 (.br 9 .done .nobr)) .nobr) .nobr)) .nobr) (.br 4 (.take 1 (.take 5 (.br 6 (.br 7 (.take 8 (.br 9 .done .nobr)) .nobr) .nobr))) .nobr)) .nobr)))) ae ?_
    simp (maxSteps:=9999999) only[tt,seval]
    all_goals try simp (maxSteps:=9999999) only[tt,seval,h7,Cur.cs,fw,av,Val.row,lc]
    all_goals repeat' first|refine fI ?_ ?_|refine cv ?_ ?_
    all_goals
     refine gQ [52] ?_
     simp (maxSteps:=9999999) only[tt,seval]
     intro GF52
     refine Call1.intro (fX c4 i4 [⟨#[116]⟩,⟨#[117]⟩] ah) ?_ ?_ ?_
     ·decide
     ·simp (maxSteps:=9999999) only[tt,seval,Cur.cs,srow]
      decide
     rintro r os ⟨c5,⟨s,hs,rfl⟩,rfl,ic5⟩ hos
     simp (maxSteps:=9999999) only[tt,seval,h7,Cur.cs,fw,srow]
    all_goals repeat' first|refine rT ?_ ?_|refine j1 ?_ ?_|refine j2 ?_ ?_
    all_goals
     refine qA ?_
    all_goals
     have hs2:dc s=true:=(by decide:∀s∈[⟨#[116]⟩,⟨#[117]⟩],dc s=true) s hs
     try rw[eR i aa]
     refine⟨[.ren 56 10045],ah,ah,?_⟩
     simp (maxSteps:=9999999) only[tt,seval,oF]
     refine⟨[(9000,.str c5.cs),(5,.str [.v (.bool di),.s 10045 (l++[(Item.mk true s (.mk 0 0 false ⟨0,0,⟨#[]⟩⟩ ⟨#[]⟩ ⟨#[]⟩ [] []) ⟨#[]⟩)]).length,.v (.slice none 0 0),.v (.slice none 0 0),.v (.slice none 0 0),.v (.int .i64 (-1))]),(10045,.arr 78 (l++[(Item.mk true s (.mk 0 0 false ⟨0,0,⟨#[]⟩⟩ ⟨#[]⟩ ⟨#[]⟩ [] []) ⟨#[]⟩)]).length ((l++[(Item.mk true s (.mk 0 0 false ⟨0,0,⟨#[]⟩⟩ ⟨#[]⟩ ⟨#[]⟩ [] []) ⟨#[]⟩)]).flatMap Item.row) (some (Fl))),(4,.str [.v (.bool false),.v (.slice none 0 0),.v (.slice none 0 0),.v (.slice none 0 0),.v (.slice none 0 0),.v (.int .i64 0)])],some (GF52::Pl),by simp only[Item.row_mk,am,lc,List.append_nil,List.flatMap_append,List.flatMap_cons,List.flatMap_nil,aD,List.length_cons,List.length_nil,Cur.cs];exact ak rfl (ak rfl (ak rfl (ak rfl (ap _)))),PoSub.refl _,⟨i+1,l++[(Item.mk true s (.mk 0 0 false ⟨0,0,⟨#[]⟩⟩ ⟨#[]⟩ ⟨#[]⟩ [] []) ⟨#[]⟩)],c5,Fl,GF52::Pl,by simp,by simp [hl],aa,fun x hx=>by
      rcases List.mem_append.1 hx with h|h
      ·exact hal x h
      ·rw[List.mem_singleton.1 h];exact ItOk.star hs2,ic5,fun x=>by have:=hsb x;(try simp only[List.flatten_cons,List.count_append] at this ⊢);omega,rfl,rfl⟩,az⟩
   ·try simp (maxSteps:=9999999) only[tt,seval,h7,Cur.cs,fw,av,Val.row,lc]
    refine CallQ.intro (hE c4 i4) ?_ ?_ ?_
    ·decide
    ·simp (maxSteps:=9999999) only[tt,seval,Cur.cs]
    rintro r os ⟨c5,⟨⟨k,o,nn,v,q,m,ks,ss⟩,Fk,Fs,rfl,he⟩,rfl,i5⟩ hos
    simp (maxSteps:=9999999) only[tt,seval,Cur.cs,fw,av,am]
    refine CallQ.intro (bT c5 i5 2) ?_ ?_ ?_
    ·decide
    ·simp (maxSteps:=9999999) only[tt,seval,Cur.cs]
    rintro r os ⟨c6,⟨b6,rfl⟩,rfl,i6⟩ hos
    simp (maxSteps:=9999999) only[tt,seval,h7,Cur.cs,fw]
    refine ab (fun hb6=>?_) (fun hb6=>?_)
    ·try simp (maxSteps:=9999999) only[tt,seval,h7,Cur.cs,fw,av,Val.row,lc]
     refine CallQ.intro (mm c6 i6) ?_ ?_ ?_
     ·decide
     ·simp (maxSteps:=9999999) only[tt,seval,Cur.cs]
     rintro r os ⟨c7,⟨s7,rfl,hs7⟩,rfl,i7⟩ hos
     simp (maxSteps:=9999999) only[tt,seval,h7,Cur.cs,fw]
     have hs8:dc s7=true:=by unfold dc;rw[hs7];simp
     refine qA ?_
     try rw[eR i aa]
     refine⟨[.ren 37 10045],ah,ah,?_⟩
     simp (maxSteps:=9999999) only[tt,seval,oF]
     refine⟨[(9000,.str c7.cs),(5,.str [.v (.bool di),.s 10045 (l++[(Item.mk false ⟨#[]⟩ (Expr.mk k o nn v q m ks ss) s7)]).length,.v (.slice none 0 0),.v (.slice none 0 0),.v (.slice none 0 0),.v (.int .i64 (-1))]),(10045,.arr 78 (l++[(Item.mk false ⟨#[]⟩ (Expr.mk k o nn v q m ks ss) s7)]).length ((l++[(Item.mk false ⟨#[]⟩ (Expr.mk k o nn v q m ks ss) s7)]).flatMap Item.row) (some (Fl++(Fk++Fs)))),(4,.str [.v (.bool false),.v (.slice none 0 0),.v (.slice none 0 0),.v (.slice none 0 0),.v (.slice none 0 0),.v (.int .i64 0)])],some (Pl++(Fk++Fs)),by simp only[Item.row_mk,am,lc,List.append_nil,List.flatMap_append,List.flatMap_cons,List.flatMap_nil,aD,List.length_cons,List.length_nil,Cur.cs];exact ak rfl (ak rfl (ak rfl (ak rfl (ap _)))),PoSub.refl _,⟨i+1,l++[(Item.mk false ⟨#[]⟩ (Expr.mk k o nn v q m ks ss) s7)],c7,Fl++(Fk++Fs),Pl++(Fk++Fs),by simp,by simp [hl],aa,fun x hx=>by
      rcases List.mem_append.1 hx with h|h
      ·exact hal x h
      ·rw[List.mem_singleton.1 h];exact ItOk.ex he hs8,i7,fun x=>by have:=hsb x;(try simp only[List.flatten_append,List.count_append] at this ⊢);omega,rfl,rfl⟩,az⟩
    ·try simp (maxSteps:=9999999) only[tt,seval,h7,Cur.cs,fw,av,Val.row,lc]
     refine qA ?_
     try rw[eR i aa]
     refine⟨[.ren 37 10045],ah,ah,?_⟩
     simp (maxSteps:=9999999) only[tt,seval,oF]
     refine⟨[(9000,.str c6.cs),(5,.str [.v (.bool di),.s 10045 (l++[(Item.mk false ⟨#[]⟩ (Expr.mk k o nn v q m ks ss) ⟨#[]⟩)]).length,.v (.slice none 0 0),.v (.slice none 0 0),.v (.slice none 0 0),.v (.int .i64 (-1))]),(10045,.arr 78 (l++[(Item.mk false ⟨#[]⟩ (Expr.mk k o nn v q m ks ss) ⟨#[]⟩)]).length ((l++[(Item.mk false ⟨#[]⟩ (Expr.mk k o nn v q m ks ss) ⟨#[]⟩)]).flatMap Item.row) (some (Fl++(Fk++Fs)))),(4,.str [.v (.bool false),.v (.slice none 0 0),.v (.slice none 0 0),.v (.slice none 0 0),.v (.slice none 0 0),.v (.int .i64 0)])],some (Pl++(Fk++Fs)),by simp only[Item.row_mk,am,lc,List.append_nil,List.flatMap_append,List.flatMap_cons,List.flatMap_nil,aD,List.length_cons,List.length_nil,Cur.cs];exact ak rfl (ak rfl (ak rfl (ak rfl (ap _)))),PoSub.refl _,⟨i+1,l++[(Item.mk false ⟨#[]⟩ (Expr.mk k o nn v q m ks ss) ⟨#[]⟩)],c6,Fl++(Fk++Fs),Pl++(Fk++Fs),by simp,by simp [hl],aa,fun x hx=>by
      rcases List.mem_append.1 hx with h|h
      ·exact hal x h
      ·rw[List.mem_singleton.1 h];exact ItOk.ex he ah,i6,fun x=>by have:=hsb x;(try simp only[List.flatten_append,List.count_append] at this ⊢);omega,rfl,rfl⟩,az⟩
  ·obtain⟨it,hite⟩:∃it,it=l:=⟨_,rfl⟩
   have hit1:1<=it.length:=by rw[hite];omega
   have hit2:it.length<=2:=by rw[hite];omega
   have bu:∀x,x∈it->ItOk d x:=by rw[hite];exact hal
   rw[<-hite]
   clear hal hite
   simp (maxSteps:=9999999) only[seval,Cur.cs]
   refine CallQ.intro (bj c3 i3 2) ?_ ?_ ?_
   ·decide
   ·simp (maxSteps:=9999999) only[tt,seval,Cur.cs]
   rintro r os ⟨y,c9,rfl,rfl,hy,i9⟩ hos
   simp (maxSteps:=9999999) only[tt,seval,Cur.cs]
   have hy2:=hy.2 aa
   obtain⟨n1,hn0⟩:∃n1:Nat,(1:Int)+y=n1:=⟨((1:Int)+y).toNat,aa⟩
   rw[aE (n:=(1:Int)+y) aa aa,hn0]
   have hn11:1<=n1:=by omega
   have hn12:n1<=2:=by omega
   clear hn0 hy hy2
   refine dLoop.gh [.virtC 5 2 10090 80] ⟨ah,?_⟩
   simp (maxSteps:=9999999) only[tt,seval]
   refine dLoop0.introR (fun f L p=>∃(j:Nat) (l:List Source) (c':Cur) (F2 Pl2:List (List Nat)),f 9=vi j/\l.length=j/\j<=n1/\(∀(x:Nat) (hx:x<l.length),SrOk d x l[x])/\0<=c'.i/\Sb (Fl++F2).flatten Pl2.flatten/\L=[(9000,.str c'.cs),(5,.str [.v (.bool di),.s 10045 it.length,.s 10090 (l).length,.v (.slice none 0 0),.v (.slice none 0 0),.v (.int .i64 (-1))]),(10045,.arr 78 it.length (it.flatMap Item.row) (some Fl)),(10090,.arr 80 (l).length ((l).flatMap Source.row) (some (F2))),(4,.str [.v (.bool false),.v (.slice none 0 0),.v (.slice none 0 0),.v (.slice none 0 0),.v (.slice none 0 0),.v (.int .i64 0)])]/\p=some Pl2) (fun f _ _=>(n1-fH (f 9)).toNat) [(9000,.str c9.cs),(5,.str [.v (.bool di),.s 10045 it.length,.s 10090 (([]:List Source)).length,.v (.slice none 0 0),.v (.slice none 0 0),.v (.int .i64 (-1))]),(10045,.arr 78 it.length (it.flatMap Item.row) (some Fl)),(10090,.arr 80 (([]:List Source)).length ((([]:List Source)).flatMap Source.row) (some ([]))),(4,.str [.v (.bool false),.v (.slice none 0 0),.v (.slice none 0 0),.v (.slice none 0 0),.v (.slice none 0 0),.v (.int .i64 0)])] (some Pl) ⟨ak rfl (ak rfl (ak rfl (ak rfl (ak rfl (ap _))))),PoSub.refl _,?_⟩ ?_
   ·simp (maxSteps:=9999999) only[tt,seval]
    exact⟨0,[],c9,[],Pl,rfl,rfl,Nat.zero_le _,(fun x h=>absurd h (Nat.not_lt_zero _)),i9,by rw[List.append_nil];exact hsb,rfl,rfl⟩
   ·rintro g9 L p ⟨j,l,c3,F2,Pl2,h9,hl,hi2,hal,i3,hsb2,rfl,rfl⟩
    simp (maxSteps:=9999999) only[tt,seval] at h9
    simp (maxSteps:=9999999) only[tt,seval,h9,Int.ofNat_lt]
    refine ab (fun hlt=>?_) (fun hge=>?_)
    ·try simp (maxSteps:=9999999) only[tt,seval,Cur.cs]
     refine gQ [67] ?_
     simp (maxSteps:=9999999) only[tt,seval]
     intro GF67
     refine Call1.intro (fX c3 i3 [⟨#[116]⟩,⟨#[117]⟩,⟨#[118]⟩] ah) ?_ ?_ ?_
     ·decide
     ·simp (maxSteps:=9999999) only[tt,seval,Cur.cs,srow]
     rintro r os ⟨c4,⟨tb,htb0,rfl⟩,rfl,ic4⟩ hos
     simp (maxSteps:=9999999) only[tt,seval,Cur.cs,fw,srow]
     have htb:bJ tb=true:=(by decide:∀s∈[⟨#[116]⟩,⟨#[117]⟩,⟨#[118]⟩],bJ s=true) tb htb0
     refine CallQ.intro (bT c4 ic4 3) ?_ ?_ ?_
     ·decide
     ·simp (maxSteps:=9999999) only[tt,seval,Cur.cs]
     rintro r os ⟨c5,⟨b5,rfl⟩,rfl,i5⟩ hos
     simp (maxSteps:=9999999) only[tt,seval,h9,Cur.cs]
     refine ab (fun hb=>?_) (fun hb=>?_)
     case' refine_1=>
      refine CallQ.intro (mm c5 i5) ?_ ?_ ?_
      ·decide
      ·simp (maxSteps:=9999999) only[tt,seval,Cur.cs]
      rintro r os ⟨c6,⟨s6,rfl,hs6⟩,rfl,i6⟩ hos
      simp (maxSteps:=9999999) only[tt,seval,h9,Cur.cs]
      obtain⟨sa,hsa0⟩:∃sa:ByteArray,sa=s6:=⟨_,rfl⟩
      have hsa2:dc sa=true:=by unfold dc;rw[hsa0,hs6];simp
     case' refine_2=>
      obtain⟨sa,hsa0⟩:∃sa:ByteArray,sa=⟨#[]⟩:=⟨_,rfl⟩
      have hsa2:dc sa=true:=by rw[hsa0];decide
      generalize hc0:c5=c6 at *
      have i6:=i5
     all_goals
      by_cases hj:(0:Int)<(j:Int)
      case' pos=>
       simp (maxSteps:=9999999) only[tt,seval,ax hj]
       refine CallQ.intro (bT c6 i6 2) ?_ ?_ ?_
       ·decide
       ·simp (maxSteps:=9999999) only[tt,seval,Cur.cs]
       rintro r os ⟨c8,⟨b8,rfl⟩,rfl,i8⟩ hos
       simp (maxSteps:=9999999) only[tt,seval,h9,Cur.cs,fw]
       refine ab (fun hb=>?_) (fun hb=>?_)
       case' refine_1=>
        refine CallQ.intro (hE c8 i8) ?_ ?_ ?_
        ·decide
        ·simp (maxSteps:=9999999) only[tt,seval,Cur.cs]
        rintro r os ⟨c9,⟨⟨k,o,nn,v,q,m,ks,ss⟩,Fk,Fs,rfl,he⟩,rfl,i9⟩ hos
        simp (maxSteps:=9999999) only[tt,seval,h9,Cur.cs,fw,av,am]
        obtain⟨on,hon⟩:∃on:List Expr,on=[(Expr.mk k o nn v q m ks ss)]:=⟨_,rfl⟩
        have h8:on.length<=1/\((j:Nat)=0->on=[])/\∀e,e∈on->DrE d e:=by rw[hon];exact⟨by simp,fun h0=>absurd h0 aa,fun e h=>by rw[List.mem_singleton.1 h];exact he⟩
        intro Gx
        obtain⟨Fon,hFo⟩:∃F:List (List Nat),F=Gx::(Fk++Fs):=⟨_,rfl⟩
        obtain⟨P2,hP2⟩:∃P:List (List Nat),P=Gx::(GF67::(Pl2++(Fk++Fs))):=⟨_,rfl⟩
        have hsc:Sb (Fl++(F2++Fon)).flatten P2.flatten:=fun x=>by have:=hsb2 x;simp only[hFo,hP2,List.flatten_append,List.flatten_cons,List.count_append] at this ⊢;omega
       case' refine_2=>
        obtain⟨on,hon⟩:∃on:List Expr,on=[]:=⟨_,rfl⟩
        have h8:on.length<=1/\((j:Nat)=0->on=[])/\∀e,e∈on->DrE d e:=by rw[hon];exact⟨by simp,fun _=>rfl,fun e h=>by cases h⟩
        obtain⟨Fon,hFo⟩:∃F:List (List Nat),F=[]:=⟨_,rfl⟩
        obtain⟨P2,hP2⟩:∃P:List (List Nat),P=GF67::Pl2:=⟨_,rfl⟩
        have hsc:Sb (Fl++(F2++Fon)).flatten P2.flatten:=fun x=>by have:=hsb2 x;simp only[hFo,hP2,List.flatten_append,List.flatten_cons,List.count_append,List.append_nil] at this ⊢;omega
        generalize hc0:c8=c9 at *
        have i9:=i8
      case' neg=>
       simp (maxSteps:=9999999) only[tt,seval,aB hj,h9,fw]
       obtain⟨on,hon⟩:∃on:List Expr,on=[]:=⟨_,rfl⟩
       have h8:on.length<=1/\((j:Nat)=0->on=[])/\∀e,e∈on->DrE d e:=by rw[hon];exact⟨by simp,fun _=>rfl,fun e h=>by cases h⟩
       obtain⟨Fon,hFo⟩:∃F:List (List Nat),F=[]:=⟨_,rfl⟩
       obtain⟨P2,hP2⟩:∃P:List (List Nat),P=GF67::Pl2:=⟨_,rfl⟩
       have hsc:Sb (Fl++(F2++Fon)).flatten P2.flatten:=fun x=>by have:=hsb2 x;simp only[hFo,hP2,List.flatten_append,List.flatten_cons,List.count_append,List.append_nil] at this ⊢;omega
       generalize hc0:c6=c9 at *
       have i9:=i6
      all_goals
       refine qA ?_
       try rw[aE (n:=(j:Int)+1) aa aa]
       refine⟨[.ren 90 10090],ah,ah,?_⟩
       simp (maxSteps:=9999999) only[tt,seval,oF]
       refine⟨[(9000,.str c9.cs),(5,.str [.v (.bool di),.s 10045 it.length,.s 10090 (l++[(Source.mk tb sa on)]).length,.v (.slice none 0 0),.v (.slice none 0 0),.v (.int .i64 (-1))]),(10045,.arr 78 it.length (it.flatMap Item.row) (some Fl)),(10090,.arr 80 (l++[(Source.mk tb sa on)]).length ((l++[(Source.mk tb sa on)]).flatMap Source.row) (some (F2++Fon))),(4,.str [.v (.bool false),.v (.slice none 0 0),.v (.slice none 0 0),.v (.slice none 0 0),.v (.slice none 0 0),.v (.int .i64 0)])],some P2,by simp only[Source.row_mk,am,List.append_nil,List.flatMap_append,List.flatMap_cons,List.flatMap_nil,aD,List.length_cons,List.length_nil,Cur.cs,hon,hsa0,hFo];exact ak rfl (ak rfl (ak rfl (ak rfl (ak rfl (ap _))))),(fun qs h=>by injection h with h;subst h;exact⟨_,rfl,fun x=>by (try simp only[hP2,List.flatten_append,List.flatten_cons,List.count_append]);omega⟩),⟨j+1,l++[(Source.mk tb sa on)],c9,F2++Fon,P2,by simp,by simp [hl],aa,fun x hx=>by
        rcases Nat.lt_or_ge x l.length with h|h
        ·rw[List.getElem_append_left h];exact hal x h
        ·have e:x=l.length:=by simp at hx;omega
         subst e
         rw[List.getElem_append_right (Nat.le_refl _)];simp only[Nat.sub_self,List.getElem_cons_zero];exact SrOk.mk' htb hsa2 h8.1 (fun h0=>h8.2.1 aa) h8.2.2,i9,hsc,rfl,rfl⟩,az⟩
    ·have hfr1:1<=l.length:=by omega
     have hfr2:l.length<=2:=by omega
     have hfr:=hal
     obtain⟨fr,hfe⟩:∃fr,fr=l:=⟨_,rfl⟩
     rw[<-hfe] at hfr1 hfr2 ⊢
     subst hfe
     simp (maxSteps:=9999999) only[seval,Cur.cs]
     refine CallQ.intro (bT c3 i3 2) ?_ ?_ ?_
     ·decide
     ·simp (maxSteps:=9999999) only[tt,seval,Cur.cs]
     rintro r os ⟨c4,⟨b4,rfl⟩,rfl,i4⟩ hos
     simp (maxSteps:=9999999) only[tt,seval,Cur.cs]
     refine ab (fun hb=>?_) (fun hb=>?_)
     case' refine_1=>
      refine CallQ.intro (hE c4 i4) ?_ ?_ ?_
      ·decide
      ·simp (maxSteps:=9999999) only[tt,seval,Cur.cs]
      rintro r os ⟨c5,⟨⟨k,o,nn,v,q,m,ks,ss⟩,Fkw,Fsw,rfl,he⟩,rfl,i5⟩ hos
      simp (maxSteps:=9999999) only[tt,seval,Cur.cs,fw,av,am]
      obtain⟨wh,hwh⟩:∃wh:List Expr,wh=[(Expr.mk k o nn v q m ks ss)]:=⟨_,rfl⟩
      have hw1:wh.length<=1:=by rw[hwh];simp
      have hw:∀e,e∈wh->DrE d e:=by rw[hwh];exact fun e h=>by rw[List.mem_singleton.1 h];exact he
     case' refine_2=>
      obtain⟨wh,hwh⟩:∃wh:List Expr,wh=[]:=⟨_,rfl⟩
      have hw1:wh.length<=1:=by rw[hwh];simp
      have hw:∀e,e∈wh->DrE d e:=by rw[hwh];exact fun e h=>by cases h
      generalize hc0:c4=c5 at *
      have i5:=i4
     all_goals
      refine CallQ.intro (bT c5 i5 3) ?_ ?_ ?_
      ·decide
      ·simp (maxSteps:=9999999) only[tt,seval,Cur.cs]
      rintro r os ⟨cc,⟨bc9,rfl⟩,rfl,ic9⟩ hos
      simp (maxSteps:=9999999) only[tt,seval,Cur.cs]
      refine ab (fun hb=>?_) (fun hb=>?_)
      case' refine_1=>
       refine dDrawn.intro [105,107] (.take 0 (.take 2 (.take 3 (.take 5 (.br 1 (.br 4 (.br 6 (.take 7 (.br 8 (.br 9 (.take 10 (.br 11 .done .nobr)) .nobr) .nobr)) .nobr) .nobr) (.br 4 (.br 1 (.br 6 (.take 7 (.br 8 (.br 9 (.take 10 (.br 11 .done .nobr)) .nobr) .nobr)) .nobr) (.br 6 (.take 1 (.take 7 (.br 8 (.br 9 (.take 10 (.br 11 .done .nobr)) .nobr) .nobr))) .nobr)) .nobr)))))) ae ?_
       simp (maxSteps:=9999999) only[tt,seval]
       all_goals try simp (maxSteps:=9999999) only[tt,seval,Cur.cs,fw,av,Val.row,lc]
       all_goals repeat' first|refine fI ?_ ?_|refine cv ?_ ?_
       all_goals
        refine CallQ.intro (hE cc ic9) ?_ ?_ ?_
        ·decide
        ·simp (maxSteps:=9999999) only[tt,seval,Cur.cs]
         decide
        rintro r os ⟨cd,⟨⟨k2,o2,nn2,v2,q2,m2,ks2,ss2⟩,Fko,Fso,rfl,he2⟩,rfl,id9⟩ hos
        simp (maxSteps:=9999999) only[tt,seval,Cur.cs,av,am]
       all_goals repeat' first|refine fI ?_ ?_|refine cv ?_ ?_
       all_goals
        refine CallQ.intro (bT cd id9 2) ?_ ?_ ?_
        ·decide
        ·simp (maxSteps:=9999999) only[tt,seval,Cur.cs]
         decide
        rintro r os ⟨ce,⟨de,rfl⟩,rfl,ie⟩ hos
        simp (maxSteps:=9999999) only[tt,seval,Cur.cs,fw]
       all_goals repeat' first|refine rT ?_ ?_|refine j1 ?_ ?_|refine j2 ?_ ?_
       all_goals
        refine qA ?_
       all_goals
        obtain⟨od,hod⟩:∃od:List SortKey,od=[.mk (Expr.mk k2 o2 nn2 v2 q2 m2 ks2 ss2) de]:=⟨_,rfl⟩
        have ho1:od.length<=1:=by rw[hod];simp
        have ho:∀k,k∈od->DrE d k.e:=by rw[hod];exact fun e h=>by rw[List.mem_singleton.1 h];exact he2
      case' refine_2=>
       obtain⟨od,hod⟩:∃od:List SortKey,od=[]:=⟨_,rfl⟩
       have ho1:od.length<=1:=by rw[hod];simp
       have ho:∀k,k∈od->DrE d k.e:=by rw[hod];exact fun e h=>by cases h
       generalize hc0:cc=ce at *
       have ie:=ic9
      all_goals
       refine CallQ.intro (bT ce ie 4) ?_ ?_ ?_
       ·decide
       ·simp (maxSteps:=9999999) only[tt,seval,Cur.cs]
       rintro r os ⟨ca,⟨ba,rfl⟩,rfl,ia⟩ hos
       simp (maxSteps:=9999999) only[tt,seval,Cur.cs]
       refine ab (fun hb=>?_) (fun hb=>?_)
       case' refine_1=>
        refine gQ [115] ?_
        simp (maxSteps:=9999999) only[tt,seval]
        intro GF115
        refine Call1.intro (jy ca ia [0,1,2,9223372036854775807] ah) ?_ ?_ ?_
        ·decide
        ·simp (maxSteps:=9999999) only[tt,seval,Cur.cs,irow]
        rintro r os ⟨cb,⟨l7,hl7,rfl⟩,rfl,ib⟩ hos
        simp (maxSteps:=9999999) only[tt,seval,Cur.cs,irow]
        obtain⟨lm,hlm⟩:∃lm:Int,lm=l7:=⟨_,rfl⟩
        have hl2 : -1<=lm/\lm<=9223372036854775807:=hlm▸(by decide:∀s∈([0,1,2,9223372036854775807]:List Int),-1<=s/\s<=9223372036854775807) l7 hl7
       case' refine_2=>
        obtain⟨lm,hlm⟩:∃lm:Int,lm = -1:=⟨_,rfl⟩
        have hl2 : -1<=lm/\lm<=9223372036854775807:=by rw[hlm];decide
        generalize hc0:ca=cb at *
        have ib:=ia
       all_goals first
        | (intro GI GS GW GO
           refine⟨.ag (av (Query.mk di it fr wh od lm).row [GI::Fl,GS::F2,GW::(Fkw++Fsw),GO::(Fko++Fso)]),[cb.cs],⟨cb,⟨_,GI::Fl,GS::F2,GW::(Fkw++Fsw),GO::(Fko++Fso),rfl,DrQ.mk' hit1 hit2 bu hfr1 hfr2 hfr hw1 hw ho1 ho hl2.1 hl2.2⟩,rfl,ib⟩,aq ?_⟩
           simp (maxSteps:=9999999) only[tt,seval,hwh,hod,hlm,aG,SortKey.row_mk,am,av,Cur.cs,av]
           first|done|exact ff fun x=>by have:=hsb2 x;simp only[List.flatten_append,List.flatten_cons,List.count_append] at this ⊢;omega)
        | (intro GI GS GW
           refine⟨.ag (av (Query.mk di it fr wh od lm).row [GI::Fl,GS::F2,GW::(Fkw++Fsw),[]]),[cb.cs],⟨cb,⟨_,GI::Fl,GS::F2,GW::(Fkw++Fsw),[],rfl,DrQ.mk' hit1 hit2 bu hfr1 hfr2 hfr hw1 hw ho1 ho hl2.1 hl2.2⟩,rfl,ib⟩,aq ?_⟩
           simp (maxSteps:=9999999) only[tt,seval,hwh,hod,hlm,aG,am,av,Cur.cs,av]
           first|done|exact ff fun x=>by have:=hsb2 x;simp only[List.flatten_append,List.flatten_cons,List.count_append] at this ⊢;omega)
        | (intro GI GS GO
           refine⟨.ag (av (Query.mk di it fr wh od lm).row [GI::Fl,GS::F2,[],GO::(Fko++Fso)]),[cb.cs],⟨cb,⟨_,GI::Fl,GS::F2,[],GO::(Fko++Fso),rfl,DrQ.mk' hit1 hit2 bu hfr1 hfr2 hfr hw1 hw ho1 ho hl2.1 hl2.2⟩,rfl,ib⟩,aq ?_⟩
           simp (maxSteps:=9999999) only[tt,seval,hwh,hod,hlm,aG,SortKey.row_mk,am,av,Cur.cs,av]
           first|done|exact ff fun x=>by have:=hsb2 x;simp only[List.flatten_append,List.flatten_cons,List.count_append] at this ⊢;omega)
        | (intro GI GS
           refine⟨.ag (av (Query.mk di it fr wh od lm).row [GI::Fl,GS::F2,[],[]]),[cb.cs],⟨cb,⟨_,GI::Fl,GS::F2,[],[],rfl,DrQ.mk' hit1 hit2 bu hfr1 hfr2 hfr hw1 hw ho1 ho hl2.1 hl2.2⟩,rfl,ib⟩,aq ?_⟩
           simp (maxSteps:=9999999) only[tt,seval,hwh,hod,hlm,aG,av,Cur.cs,av]
           first|done|exact ff fun x=>by have:=hsb2 x;simp only[List.flatten_append,List.flatten_cons,List.count_append] at this ⊢;omega)
end
end Go.Proofs.YtdmomaomffhidaaGreatDoor
set_option maxRecDepth 8000
namespace Go.Proofs.YtdmomaomffhidaaGreatDoor
open Go Go.Dv
open Go.Vc (D dm dq cV bq)
section
variable [CodeOut]
theorem ui (d:Nat):d<=50->JD d/\Iv d:=by
 induction d using Nat.strongRecOn with
 |_ d ih=>
  intro h
  have hx:JD d:=xE d h (fun d2 e n m hm hn c h0=>by
   subst e hm
   exact xD d2 aa (ih d2 aa aa).1 n hn c h0) fun d3 e=>(ih d3 aa aa).2
  exact⟨hx,vA d h hx⟩
end
end Go.Proofs.YtdmomaomffhidaaGreatDoor
