/-
  Draws of expressions and queries.
  Conditions: none.
-/
import Derived.Test.YtoegnikpokgbfaaGreatDoorMIY
import Derived.Test.YtoegnikpokgbfaaGreatDoorMIF2
set_option linter.unusedVariables false
set_option linter.unusedSimpArgs false
set_option linter.unusedSectionVars false
set_option linter.unnecessarySimpa false
set_option maxRecDepth 8000
namespace Go.Proofs.YtoegnikpokgbfaaGreatDoor
open Go Go.Dv
open Go.Vc (D cF cG cv aX)
open Go.Cv Go.Cx
class CodeOut extends Out where
 ok:∃(a:Option Addr) (n cap:Nat),code = .slice a n cap/\n<=maxLen/\(n=0∨∃b o Q,a=some ⟨b,o,none⟩/\(b,Q)∈vars/\∀cs:Array Value,Q cs->∀j,j<n->∃z:Int,cs[o+j]?=some (.int .u8 z))
set_option maxHeartbeats 1000000 in
theorem wk [h:CodeOut] (w:World) (b:Nat) (i hh:Int) (ty:TypeId) (lh:Nat×Nat) (hb:w.heap[b]?=some (.cells #[Out.code,.int .i64 i,.int .i64 hh] ty lh)) (hl:Lh 3 lh) (hi:0<=i) (hg:GlW w (fun x=>x=b)) :
 Go.Vc.callable Tryz.prog 111=true/\Calls Tryz.prog 111 #[.pointer (some ⟨b,0,none⟩)] w fun e w'=>∃r,e = .returned r/\∃x i' h':Int,r = .int .i64 x/\0<=x/\x<=255/\0<=i'/\w'.heap[b]?=some (.cells #[Out.code,.int .i64 i',.int .i64 h'] ty lh)/\ChL [b] w w'/\w'.heap.size=w.heap.size:=by
 obtain⟨a,n,cap,hc,hn,hcode⟩:=h.ok
 simp only[maxLen] at hn
 rw[hc] at hb ⊢
 refine⟨ac,?_⟩
 refine @qk _ w 111 Tryz.f111 _ [.pointer (some ⟨b,0,none⟩)] _ Tryz.func111 rfl (Nat.le_of_ble_eq_true rfl) ?_
 simp (maxSteps:=9999999) only[tt,Go.Cx.xc,Go.Cx.xl,Go.Cx.xOp,Go.Cx.xStoreP,Go.Cv.cg0,Go.Cv.cOp,Go.Cv.cLoad,Go.Cv.cStore,Go.Cv.cEnd,Go.Cv.cRet,Go.Cv.regsV,Go.Vc.oneCell,seval,Tryz.f111]
 refine⟨_,bP hb (j:=2) rfl,?_⟩
 simp (maxSteps:=9999999) only[tt,seval]
 refine mA hb hl (by simp) fun w1 hb1 g1 e1=>?_
 obtain⟨h1,hb1⟩:∃h1,w1.heap[b]?=some (.cells #[.slice a n cap,.int .i64 i,.int .i64 h1] ty lh):=⟨_,hb1⟩
 refine⟨ah,xDrawn.intro (kV [0,2,4,6,8,10,12,14,16,18,20,22,24]) ac fun w2 p2 g2=>?_⟩
 have hb2:=(congrArg (·[b]?) p2).trans hb1
 simp (maxSteps:=9999999) only[tt,Go.Cx.xOp,Go.Cx.xPlan,kV,Go.Cv.cg0,Go.Cv.cOp,Go.Cv.cLoad,seval]
 refine⟨_,bP hb2 (j:=2) rfl,?_⟩
 simp (maxSteps:=9999999) only[tt,seval]
 refine⟨_,bP hb2 (j:=2) rfl,?_⟩
 simp (maxSteps:=9999999) only[tt,seval,cF,cG,cv]
 refine⟨ah,xDrawn.intro (kV [0,2,4,6,8,10,12,14,16,18]) ac fun w3 p3 g3=>?_⟩
 have hb3:=(congrArg (·[b]?) p3).trans hb2
 simp (maxSteps:=9999999) only[tt,Go.Cx.xOp,Go.Cx.xPlan,kV,Go.Cv.cg0,Go.Cv.cOp,Go.Cv.cLoad,Nat.add_zero,seval]
 refine⟨_,bP hb3 (j:=1) rfl,?_⟩
 simp (maxSteps:=9999999) only[tt,seval]
 refine⟨_,bP hb3 (j:=0) rfl,?_⟩
 simp (maxSteps:=9999999) only[tt,seval]
 refine ab (fun hlt=>?_) (fun hge=>?_)
 ·obtain⟨bc,o,Q,rfl,hQ,hcs⟩:=hcode.resolve_left aa
  obtain⟨hne,cs,tc,lc,hbc,hq⟩:=hg _ (List.mem_append_right _ hQ)
  have hne:bc≠b:=hne
  obtain⟨z,hz⟩:=hcs cs hq i.toNat aa
  have hbc1:=ChL.at g1 hbc (by simpa using hne)
  have hbc3:=(congrArg (·[bc]?) (p3.trans p2)).trans hbc1
  refine⟨ah,xDrawn.intro (kV [0,2,4,6,8,10,12,14,16,18,20,22,24,26,28]) ac fun w4 p4 g4=>?_⟩
  have hb4:=(congrArg (·[b]?) p4).trans hb3
  have hbc4:=(congrArg (·[bc]?) p4).trans hbc3
  simp (maxSteps:=9999999) only[tt,Go.Cx.xOp,Go.Cx.xPlan,kV,Go.Cv.cg0,Go.Cv.cOp,Go.Cv.cLoad,Nat.add_zero,seval]
  refine⟨_,bP hb4 (j:=0) rfl,?_⟩
  simp (maxSteps:=9999999) only[seval]
  refine⟨_,bP hb4 (j:=1) rfl,?_⟩
  simp (maxSteps:=9999999) only[seval]
  refine⟨hi,hlt,?_⟩
  simp (maxSteps:=9999999) only[seval,Nat.mul_one]
  refine⟨_,bP hbc4 hz,?_⟩
  simp (maxSteps:=9999999) only[tt,seval,cv]
  refine⟨_,bP hb4 (j:=1) rfl,?_⟩
  simp (maxSteps:=9999999) only[tt,seval]
  refine mA hb4 hl (by simp) fun w5 hb5 g5 e5=>?_
  have hb5:w5.heap[b]?=some (.cells #[.slice (some ⟨bc,o,none⟩) n cap,.int .i64 (IntKind.i64.wrap (i+1)),.int .i64 h1] ty lh):=hb5
  rw[aI (n:=i+1) aa aa] at hb5
  simp (maxSteps:=9999999) only[tt,seval]
  refine⟨_,_,_,rfl,(aX _).1,(aX _).2,aa,hb5,(((g1.trans (g2.chl _)).trans (g3.chl _)).trans (g4.chl _)).trans g5,e5.trans ((congrArg (·.size) p4).trans ((congrArg (·.size) p3).trans ((congrArg (·.size) p2).trans e1)))⟩
 ·try simp (maxSteps:=9999999) only[tt,Go.Cx.xc,Go.Cx.xl,Go.Cx.xOp,Go.Cx.xCall,Go.Cx.xStoreP,Go.Cx.xPlan,kV,Go.Cv.cg0,Go.Cv.cg1,Go.Cv.cOp,Go.Cv.cLoad,Go.Cv.cLoadA,Go.Cv.cStore,Go.Cv.cAlloc,Go.Cv.cBox,Go.Cv.cEnd,Go.Cv.cRet,Go.Cv.argsV,Go.Cx.argsW,Go.Cv.regsV,Go.Vc.oneCell,Go.Vc.guardSlot,Nat.add_zero,seval]
  refine⟨_,_,_,rfl,(aX _).1,(aX _).2,hi,hb3,(g1.trans (g2.chl _)).trans (g3.chl _),(congrArg (·.size) p3).trans ((congrArg (·.size) p2).trans e1)⟩
end Go.Proofs.YtoegnikpokgbfaaGreatDoor
set_option maxRecDepth 8000
namespace Go.Proofs.YtoegnikpokgbfaaGreatDoor
open Go Go.Dv
open Go.Vc (D cF cG cv aX)
open Go.Vc (D cF cG cv aX d6)
open Go.Cv Go.Cx
def iY (b:Int):List D:=[.lit (.int .u8 b)]
theorem pV (b:Int):(iY b).length=1:=rfl
theorem CZ (b:Int) (r:List D):iY b++r≠[]:=fun h=>by cases h
structure Cur where
 i:Int
 h:Int
def Cur.cs [Out] (c:Cur):List C:=[.v Out.code,.v (.int .i64 c.i),.v (.int .i64 c.h)]
def IJ [Out] (P:Int->Prop) (r:S) (os:List (List C)):Prop:=∃x c',r=vi x/\os=[Cur.cs c']/\P x/\0<=c'.i
def pW [Out] (P:S->Prop) (r:S) (os:List (List C)):Prop:=∃c':Cur,P r/\os=[c'.cs]/\0<=c'.i
theorem iZ [h:CodeOut] (c:Cur) (h0:0<=c.i):Cl Tryz.prog 111 [.c (.p 9000 0)] [c.cs] (IJ fun x=>0<=x/\x<=255):=by
 obtain⟨i,hh⟩:=c
 refine⟨ac,fun w β ok0 vs ha ho hg=>?_⟩
 obtain⟨b,xs,ty,lh,hβ,hb,hlh,hsf,hrl⟩:=ho.rel 9000 (.str (Cur.cs ⟨i,hh⟩)) rfl
 have hxs:xs = #[Out.code,.int .i64 i,.int .i64 hh]:=by
  have e:xs=xs.toList.toArray:=by simp
  rw[e]
  generalize xs.toList=l at hrl
  match l,hrl with
  | [_,_,_],⟨⟨rfl,_⟩,⟨rfl,_⟩,⟨rfl,_⟩,_⟩=>rfl
 subst hxs
 have hvs:vs=[.pointer (some ⟨b,0,none⟩)]:=by
  match vs,ha with
  | [_],⟨⟨b',hb',rfl⟩,_⟩=>
   have hb':β 9000=some b':=hb'
   rw[hβ] at hb'
   injection hb' with hb'
   rw[hb']
 subst hvs
 obtain⟨ok1,ok2⟩:d6 Out.code/\True:=by
  match hrl with
  |⟨⟨_,h1⟩,_⟩=>exact⟨h1,trivial⟩
 have own:∀x,x=b->ownB (lent [.c (.p 9000 0)] [Cur.cs ⟨i,hh⟩]) β x:=fun x e=>⟨9000,_,rfl,by rw[e];exact hβ⟩
 have key:∀(k:Nat) (o:O),Go.Dv.look (lent [.c (.p 9000 0)] [Cur.cs ⟨i,hh⟩]) k=some o->k=9000:=fun k o hk=>by
  have:Go.Dv.look [(9000,O.str (Cur.cs ⟨i,hh⟩))] k=some o:=hk
  simp only[Go.Dv.look] at this
  split at this
  ·rename_i e;exact e.symm
  ·cases this
 have hgw:GlW w (fun x=>x=b):=hg.mono (fun _ _ _=>rfl) fun x hx _=>own x hx
 refine ((wk w b i hh ty lh hb hlh h0 hgw).2).mono ?_
 rintro e w' ⟨r,rfl,x,i',h',rfl,h1,h2,h3,hb',g,hs⟩
 have key':∀(k:Nat) (o:O),Go.Dv.look (back (vi x) [Cur.cs ⟨i',h'⟩]) k=some o->k=9000/\o = .str (Cur.cs ⟨i',h'⟩):=fun k o hk=>by
  have:Go.Dv.look [(9000,O.str (Cur.cs ⟨i',h'⟩))] k=some o:=hk
  simp only[Go.Dv.look] at this
  split at this
  ·rename_i e;injection this with this;exact⟨e.symm,this.symm⟩
  ·cases this
 refine⟨_,vi x,[Cur.cs ⟨i',h'⟩],β,rfl,⟨x,⟨i',h'⟩,rfl,rfl,⟨h1,h2⟩,h3⟩,⟨⟨rfl,trivial⟩,⟨fun k o hk=>?_,fun k k' o o' y hk hk' _ _=>(key' k o hk).1.trans (key' k' o' hk').1.symm⟩,fun _ _=>rfl,rfl,⟨aa,fun y hy hn=>?_,fun y hy hn=>?_,fun y cs t l hy=>?_⟩,?_,⟨g.chg.os,g.chg.tape,g.chg.output⟩,⟨List.nodup_nil,fun y hy=>by cases hy⟩,rfl⟩⟩
 ·obtain⟨rfl,rfl⟩:=key' k o hk
  exact⟨b,_,ty,lh,hβ,hb',hlh,SelfOk.none (by simp [Cur.cs]),⟨rfl,ok1⟩,⟨rfl,trivial⟩,⟨rfl,trivial⟩,trivial⟩
 ·exact g.keep y hy fun e=>hn (own y (by simpa using e))
 ·obtain⟨k,o,hk,hkb⟩:=hn
  obtain⟨rfl,_⟩:=key' k o hk
  exact own y (by rw[hβ] at hkb;injection hkb with hkb;exact hkb.symm)
 ·by_cases e:y=b
  ·subst e
   rw[hb] at hy
   injection hy with hy
   injection hy with e1 e2 e3
   subst e1 e2 e3
   exact⟨_,_,hb',rfl⟩
  ·exact⟨cs,l,(g.keep y (Array.getElem?_eq_some_iff.1 hy).1 (by simpa using e)).trans hy,rfl⟩
 ·show w.heap.size<=w'.heap.size
  omega
section
variable [CodeOut]
theorem bf (c:Cur) (h0:0<=c.i) (n:Int):Cl Tryz.prog 49 [.c (.p 9000 0),vi n] [c.cs] (IJ fun x=>0<=x/\(0<n->x<n)):=by
 refine am ah false Tryz.func49 rfl ac ?_
 simp only[Tryz.f49,tt,seval]
 refine ab (fun h=>?_) (fun h=>ab (fun h1=>?_) (fun h1=>?_))
 ·exact⟨_,_,⟨0,c,rfl,rfl,⟨aa,aa⟩,h0⟩,iV rfl rfl⟩
 ·skip
  refine CallQ.intro (iZ c h0) ?_ ?_ ?_
  ·decide
  ·simp only[tt,seval,Cur.cs]
  rintro r os ⟨x,c1,rfl,rfl,hx,ix⟩ hos
  simp only[tt,seval,Cur.cs]
  rw[vN aa]
  simp only[tt,seval]
  exact⟨_,_,⟨_,c1,rfl,rfl,⟨Int.tmod_nonneg _ hx.1,fun h2=>Int.tmod_lt_of_pos _ h2⟩,ix⟩,iV rfl rfl⟩
 ·skip
  refine CallQ.intro (iZ c h0) ?_ ?_ ?_
  ·decide
  ·simp only[tt,seval,Cur.cs]
  rintro r os ⟨x,c1,rfl,rfl,hx,ix⟩ hos
  simp only[tt,seval,Cur.cs]
  refine CallQ.intro (iZ c1 ix) ?_ ?_ ?_
  ·decide
  ·simp only[tt,seval,Cur.cs]
  rintro r os ⟨y,c2,rfl,rfl,hy,iy⟩ hos
  simp only[tt,seval,Cur.cs]
  refine CallQ.intro (iZ c2 iy) ?_ ?_ ?_
  ·decide
  ·simp only[tt,seval,Cur.cs]
  rintro r os ⟨z,c3,rfl,rfl,hz,iz⟩ hos
  simp only[tt,seval,Cur.cs]
  refine CallQ.intro (iZ c3 iz) ?_ ?_ ?_
  ·decide
  ·simp only[tt,seval,Cur.cs]
  rintro r os ⟨w,c4,rfl,rfl,hw,iw⟩ hos
  simp only[tt,seval,Cur.cs]
  rw[vN aa]
  simp only[tt,seval]
  have e1:=aI (n:=x*16777216) aa aa
  have e2:=aI (n:=y*65536) aa aa
  have e3:=aI (n:=z*256) aa aa
  have e4:=aI (n:=x*16777216+y*65536) aa aa
  have e5:=aI (n:=x*16777216+y*65536+z*256) aa aa
  have e6:=aI (n:=x*16777216+y*65536+z*256+w) aa aa
  rw[e1,e2,e3,e4,e5,e6]
  exact⟨_,_,⟨_,c4,rfl,rfl,⟨Int.tmod_nonneg _ aa,fun h2=>Int.tmod_lt_of_pos _ h2⟩,iw⟩,iV rfl rfl⟩
theorem bu (c:Cur) (h0:0<=c.i) (n:Int):Cl Tryz.prog 71 [.c (.p 9000 0),vi n] [c.cs] (pW fun r=>∃b,r=vb b):=by
 refine am ah false Tryz.func71 rfl ac ?_
 simp only[Tryz.f71,tt,seval]
 refine CallQ.intro (bf c h0 n) ?_ ?_ ?_
 ·decide
 ·simp only[tt,seval,Cur.cs]
 rintro r os ⟨x,c1,rfl,rfl,hx,i1⟩ hos
 simp only[tt,seval,Cur.cs]
 exact⟨_,_,⟨c1,⟨_,rfl⟩,rfl,i1⟩,iV rfl rfl⟩
theorem dD (c:Cur) (h0:0<=c.i) (ss:List ByteArray) (hne:0<ss.length):Cl Tryz.prog 168 [.c (.p 9000 0),.c (.sl ss.length (ss.flatMap srow) none)] [c.cs] (pW fun r=>∃s∈ss,r=vs s):=by
 refine am ah false Tryz.func168 rfl ac ?_
 simp only[Tryz.f168,tt,seval]
 intro hln
 refine CallQ.intro (bf c h0 ss.length) ?_ ?_ ?_
 ·decide
 ·simp only[tt,seval,Cur.cs]
 rintro r os ⟨x,c1,rfl,rfl,hx,i1⟩ hos
 simp only[tt,seval,Cur.cs]
 have hx2:=hx.2 aa
 obtain⟨k,rfl⟩:∃k:Nat,x=k:=⟨x.toNat,aa⟩
 have hk:k<ss.length:=by omega
 refine⟨aa,aa,_,aD jC (aC hk),oe _ _,?_⟩
 simp only[tt,seval,srow]
 exact⟨_,_,⟨c1,⟨_,aH hk,rfl⟩,rfl,i1⟩,iV rfl rfl⟩
theorem kx (c:Cur) (h0:0<=c.i) (ss:List Int) (hne:0<ss.length):Cl Tryz.prog 114 [.c (.p 9000 0),.c (.sl ss.length (ss.flatMap irow) none)] [c.cs] (pW fun r=>∃s∈ss,r=vi s):=by
 refine am ah false Tryz.func114 rfl ac ?_
 simp only[Tryz.f114,tt,seval]
 intro hln
 refine CallQ.intro (bf c h0 ss.length) ?_ ?_ ?_
 ·decide
 ·simp only[tt,seval,Cur.cs]
 rintro r os ⟨x,c1,rfl,rfl,hx,i1⟩ hos
 simp only[tt,seval,Cur.cs]
 have hx2:=hx.2 aa
 obtain⟨k,rfl⟩:∃k:Nat,x=k:=⟨x.toNat,aa⟩
 have hk:k<ss.length:=by omega
 refine⟨aa,aa,_,aD zx (aC hk),BN _ _,?_⟩
 simp only[tt,seval,irow]
 exact⟨_,_,⟨c1,⟨_,aH hk,rfl⟩,rfl,i1⟩,iV rfl rfl⟩
theorem zc (bs:List Int) (m:Int) (h0:2<=m):Cl Tryz.prog 73 [.c (.sl bs.length (bs.flatMap iY) none),vi m] [] fun r _=>∃x:Int,r=vi x/\2<=x/\x<=m:=by
 refine am ah false Tryz.func73 rfl ac ?_
 simp only[Tryz.f73,tt,seval]
 intro hln
 rw[Int.tdiv_eq_ediv_of_nonneg (by omega:(0:Int)<=bs.length),aI (n:=(bs.length:Int) / 20) aa aa,aI aa aa]
 exact ab (fun h=>⟨_,_,⟨_,rfl,h0,Int.le_refl _⟩,ao rfl⟩) (fun h=>⟨_,_,⟨_,rfl,aa,aa⟩,ao rfl⟩)
end
structure CurD where
 b:List Int
 i:Int
 h:Int
def CurD.cs (c:CurD):List C:=[.sl c.b.length (c.b.flatMap iY) none,.v (.int .i64 c.i),.v (.int .i64 c.h)]
section
variable [Out]
theorem D0 (bs:List Int):Hi Tryz.prog 47 [.c (.sl bs.length (bs.flatMap iY) none)] fun cs=>∃c:CurD,cs=c.cs/\0<=c.i:=by
 refine Az ah Tryz.func47 rfl ac rfl ?_
 simp only[Tryz.f47,tt,seval]
 intro hln
 refine dLoop.intro (fun f L p=>∃(i:Nat) (h:Int),f 4=vi i/\f 3=vi h/\L=[]/\p=none/\i<=bs.length)
  (fun f _ _=>(bs.length-eO (f 4)).toNat) [] none ⟨aq _,av _,?_⟩ ?_
 ·simp only[tt,seval]
  exact⟨0,_,rfl,rfl,aa⟩
 ·rintro g L p ⟨i,h,h4,h3,rfl,rfl,hi⟩
  simp only[tt,seval] at h4 h3
  simp only[tt,seval,h4]
  refine fun _=>ab (fun hlt=>?_) (fun hge=>?_)
  ·simp only[tt,seval,h4,h3]
   have hlt:i<bs.length:=by simpa using hlt
   refine ab (fun h40=>?_) (fun h40=>?_)
   ·refine⟨aa,aa,_,aD pV (aC hlt),CZ _ _,?_⟩
    simp only[tt,seval,h4,iY]
    rw[dW i aa]
    exact⟨[],none,aq _,av _,⟨i+1,_,by simp,rfl,rfl,rfl,aa⟩,aE⟩
   ·exact⟨_,rfl,rfl,⟨bs,0,h⟩,rfl,Int.le_refl _⟩
  ·simp only[tt,seval,h4,h3]
   exact⟨_,rfl,rfl,⟨bs,0,h⟩,rfl,Int.le_refl _⟩
end
end Go.Proofs.YtoegnikpokgbfaaGreatDoor
set_option maxRecDepth 8000
namespace Go.Proofs.YtoegnikpokgbfaaGreatDoor
open Go Go.Dv
open Go.Vc (D cF cG cv aX)
theorem H4 (bs:List Int):Cl Tryz.prog 8 [.c (.sl bs.length (bs.flatMap iY) none)] [] fun r _=>r=vb (decide ((1048576:Int)<(bs.length:Int))):=by
 refine am ah false Tryz.func8 rfl ac ?_
 simp only[Tryz.f8,tt,seval]
 refine fun _=>?_
 exact⟨_,_,rfl,ao rfl⟩
section
variable [CodeOut]
def wl (x:Int):Prop:=-9223372036854775808<=x/\x<=9223372036854775807
theorem rh (c:Cur) (h0:0<=c.i):Cl Tryz.prog 172 [.c (.p 9000 0)] [c.cs] (pW fun r=>∃x,r=vi x/\wl x):=by
 refine am ah false Tryz.func172 rfl ac ?_
 simp only[Tryz.f172,tt,seval]
 refine CallQ.intro (bf c h0 3) ?_ ?_ ?_
 ·decide
 ·simp only[tt,seval,Cur.cs]
 rintro r os ⟨x,c1,rfl,rfl,hx,i1⟩ hos
 simp only[tt,seval,Cur.cs]
 refine ab (fun h=>?_) (fun h=>ab (fun h2=>?_) (fun h2=>?_))
 ·skip
  refine eK [8] ?_
  simp only[tt,seval]
  refine Call1.intro (kx c1 i1 [0,1,-1,63,64,-64,-65,127,128,16383,16384,9223372036854775807,-9223372036854775808,4611686018427387904] ae) ?_ ?_ ?_
  ·decide
  ·simp only[tt,seval,Cur.cs,irow]
  rintro r os ⟨c2,⟨s,hs,rfl⟩,rfl,i2⟩ hos
  simp only[tt,seval,Cur.cs,irow]
  exact⟨_,_,⟨c2,⟨_,rfl,(by decide:∀s∈([0,1,-1,63,64,-64,-65,127,128,16383,16384,9223372036854775807,-9223372036854775808,4611686018427387904]:List Int),-9223372036854775808<=s/\s<=9223372036854775807) s hs⟩,rfl,i2⟩,iV rfl rfl⟩
 ·skip
  refine CallQ.intro (bf c1 i1 1000000) ?_ ?_ ?_
  ·decide
  ·simp only[tt,seval,Cur.cs]
  rintro r os ⟨y,c2,rfl,rfl,hy,i2⟩ hos
  simp only[tt,seval,Cur.cs]
  have:=hy.2 aa
  rw[aI (n:=y-500000) aa aa]
  exact⟨_,_,⟨c2,⟨_,rfl,by unfold wl;omega⟩,rfl,i2⟩,iV rfl rfl⟩
 ·skip
  refine CallQ.intro (bf c1 i1 20) ?_ ?_ ?_
  ·decide
  ·simp only[tt,seval,Cur.cs]
  rintro r os ⟨y,c2,rfl,rfl,hy,i2⟩ hos
  simp only[tt,seval,Cur.cs]
  have:=hy.2 aa
  exact⟨_,_,⟨c2,⟨_,rfl,by unfold wl;omega⟩,rfl,i2⟩,iV rfl rfl⟩
theorem pX (n:Int):Cl Tryz.prog 220 [vi n] [] fun r _=>r = .ag (ar (Val.mk 1 n ⟨#[]⟩).row):=by
 rw[Val.row]
 refine am ah false Tryz.func220 rfl ac ?_
 simp only[Tryz.f220,tt,seval]
 exact⟨_,_,rfl,ao rfl⟩
theorem sj (s:ByteArray):Cl Tryz.prog 218 [vs s] [] fun r _=>r = .ag (ar (Val.mk 2 0 s).row):=by
 rw[Val.row]
 refine am ah false Tryz.func218 rfl ac ?_
 simp only[Tryz.f218,tt,seval]
 exact⟨_,_,rfl,ao rfl⟩
theorem uu (b:Bool):Cl Tryz.prog 219 [vb b] [] fun r _=>r = .ag (ar (Val.mk 3 (if b=true then 1 else 0) ⟨#[]⟩).row):=by
 rw[Val.row]
 refine am ah false Tryz.func219 rfl ac ?_
 simp only[Tryz.f219,tt,seval]
 refine ab (fun h=>?_) (fun h=>?_)
 ·subst h;exact⟨_,_,rfl,ao rfl⟩
 ·subst h;exact⟨_,_,rfl,ao rfl⟩
def IK (v:Val):Prop:=wl v.num/\(v=⟨0,0,⟨#[]⟩⟩∨(v.kind=1/\v.text=⟨#[]⟩)∨(v.kind=2/\v.num=0/\v.text.size<=40)∨(v.kind=3/\(v.num=0∨v.num=1)/\v.text=⟨#[]⟩))
def HR (P:Val->Prop) (r:S):Prop:=∃v:Val,r = .ag (ar v.row)/\P v
theorem ri (c:Cur) (h0:0<=c.i):Cl Tryz.prog 170 [.c (.p 9000 0)] [c.cs] (pW (HR IK)):=by
 refine am ah false Tryz.func170 rfl ac ?_
 simp only[Tryz.f170,tt,seval]
 refine CallQ.intro (bf c h0 6) ?_ ?_ ?_
 ·decide
 ·simp only[tt,seval,Cur.cs]
 rintro r os ⟨x,c1,rfl,rfl,hx,i1⟩ hos
 simp only[tt,seval,Cur.cs]
 refine ab (fun h=>?_) (fun h=>ab (fun h2=>?_) (fun h2=>ab (fun h3=>?_) (fun h3=>ab (fun h4=>?_) (fun h4=>?_))))
 ·exact⟨_,_,⟨c1,⟨⟨0,0,⟨#[]⟩⟩,rfl,by unfold wl;decide,.inl rfl⟩,rfl,i1⟩,iV rfl rfl⟩
 ·skip
  refine eK [11] ?_
  simp only[tt,seval]
  refine Call1.intro (dD c1 i1 [⟨#[]⟩,⟨#[97]⟩,⟨#[98]⟩,⟨#[105,116,39,115]⟩,⟨#[97,98]⟩,⟨#[255]⟩] ae) ?_ ?_ ?_
  ·decide
  ·simp only[tt,seval,Cur.cs,srow]
  rintro r os ⟨c2,⟨s,hs,rfl⟩,rfl,ic2⟩ hos
  simp only[tt,seval,Cur.cs,srow]
  refine cZ (sj s) ?_ ?_<;>simp only[tt,seval,Val.row]
  exact⟨_,_,⟨c2,⟨⟨2,0,s⟩,rfl,(show wl 0 by unfold wl;decide),.inr (.inr (.inl ⟨rfl,rfl,(by decide:∀s∈[⟨#[]⟩,⟨#[97]⟩,⟨#[98]⟩,⟨#[105,116,39,115]⟩,⟨#[97,98]⟩,⟨#[255]⟩],s.size<=40) s hs⟩))⟩,rfl,ic2⟩,iV rfl rfl⟩
 ·skip
  refine CallQ.intro (bu c1 i1 2) ?_ ?_ ?_
  ·decide
  ·simp only[tt,seval,Cur.cs]
  rintro r os ⟨c2,⟨b,rfl⟩,rfl,i2⟩ hos
  simp only[tt,seval,Cur.cs]
  refine cZ (uu b) ?_ ?_<;>simp only[tt,seval,Val.row]
  exact⟨_,_,⟨c2,⟨⟨3,if b=true then 1 else 0,⟨#[]⟩⟩,rfl,by unfold wl;cases b<;>decide,.inr (.inr (.inr ⟨rfl,by cases b<;>decide,rfl⟩))⟩,rfl,i2⟩,iV rfl rfl⟩
 ·skip
  refine CallQ.intro (rh c1 i1) ?_ ?_ ?_
  ·decide
  ·simp only[tt,seval,Cur.cs]
  rintro r os ⟨c2,⟨x,rfl,hx2⟩,rfl,i2⟩ hos
  simp only[tt,seval,Cur.cs]
  refine cZ (pX x) ?_ ?_<;>simp only[tt,seval,Val.row]
  exact⟨_,_,⟨c2,⟨⟨1,x,⟨#[]⟩⟩,rfl,hx2,.inr (.inl ⟨rfl,rfl⟩)⟩,rfl,i2⟩,iV rfl rfl⟩
 ·skip
  refine CallQ.intro (bf c1 i1 7) ?_ ?_ ?_
  ·decide
  ·simp only[tt,seval,Cur.cs]
  rintro r os ⟨y,c2,rfl,rfl,hy,i2⟩ hos
  simp only[tt,seval,Cur.cs]
  have:=hy.2 aa
  rw[aI (n:=y-2) aa aa]
  refine cZ (pX (y-2)) ?_ ?_<;>simp only[tt,seval,Val.row]
  exact⟨_,_,⟨c2,⟨⟨1,y-2,⟨#[]⟩⟩,rfl,(show wl (y-2) by unfold wl;omega),.inr (.inl ⟨rfl,rfl⟩)⟩,rfl,i2⟩,iV rfl rfl⟩
theorem gM (c:Cur) (h0:0<=c.i):Cl Tryz.prog 169 [.c (.p 9000 0)] [c.cs] (pW fun r=>∃s,r=vs s/\bD s=true):=by
 refine am ah false Tryz.func169 rfl ac ?_
 simp only[Tryz.f169,tt,seval]
 refine CallQ.intro (bu c h0 6) ?_ ?_ ?_
 ·decide
 ·simp only[tt,seval,Cur.cs]
 rintro r os ⟨c1,⟨b,rfl⟩,rfl,i1⟩ hos
 simp only[tt,seval,Cur.cs]
 refine ab (fun hb=>?_) (fun hb=>?_)
 ·skip
  refine eK [6] ?_
  simp only[tt,seval]
  refine Call1.intro (dD c1 i1 [⟨#[97,32,98]⟩,⟨#[102,114,111,109]⟩,⟨#[83,101,108,101,99,116]⟩,⟨#[49,120]⟩,⟨#[113,34,113]⟩,⟨#[0]⟩,⟨#[34]⟩,⟨#[105,116,39,115]⟩,⟨#[120,46,121]⟩,⟨#[45]⟩] ae) ?_ ?_ ?_
  ·decide
  ·simp only[tt,seval,Cur.cs,srow]
  rintro r os ⟨c2,⟨s,hs,rfl⟩,rfl,ic2⟩ hos
  simp only[tt,seval,Cur.cs,srow]
  exact⟨_,_,⟨c2,⟨_,rfl,(by decide:∀s∈[⟨#[97,32,98]⟩,⟨#[102,114,111,109]⟩,⟨#[83,101,108,101,99,116]⟩,⟨#[49,120]⟩,⟨#[113,34,113]⟩,⟨#[0]⟩,⟨#[34]⟩,⟨#[105,116,39,115]⟩,⟨#[120,46,121]⟩,⟨#[45]⟩],bD s=true) s hs⟩,rfl,ic2⟩,iV rfl rfl⟩
 ·skip
  refine eK [9] ?_
  simp only[tt,seval]
  refine Call1.intro (dD c1 i1 [⟨#[97]⟩,⟨#[98]⟩,⟨#[99]⟩,⟨#[116]⟩,⟨#[117]⟩,⟨#[118]⟩,⟨#[105,100]⟩,⟨#[110,97,109,101]⟩,⟨#[65]⟩,⟨#[95,120,49]⟩] ae) ?_ ?_ ?_
  ·decide
  ·simp only[tt,seval,Cur.cs,srow]
  rintro r os ⟨c2,⟨s,hs,rfl⟩,rfl,ic2⟩ hos
  simp only[tt,seval,Cur.cs,srow]
  exact⟨_,_,⟨c2,⟨_,rfl,(by decide:∀s∈[⟨#[97]⟩,⟨#[98]⟩,⟨#[99]⟩,⟨#[116]⟩,⟨#[117]⟩,⟨#[118]⟩,⟨#[105,100]⟩,⟨#[110,97,109,101]⟩,⟨#[65]⟩,⟨#[95,120,49]⟩],bD s=true) s hs⟩,rfl,ic2⟩,iV rfl rfl⟩
theorem rj (c:Cur) (h0:0<=c.i):Cl Tryz.prog 108 [.c (.p 9000 0)] [c.cs] (pW (HR fun v=>ir v=true/\v.num<=9223372036854775807 /\ -9223372036854775808<=v.num)):=by
 refine am ah false Tryz.func108 rfl ac ?_
 simp only[Tryz.f108,tt,seval]
 refine CallQ.intro (ri c h0) ?_ ?_ ?_
 ·decide
 ·simp only[tt,seval,Cur.cs]
 rintro r os ⟨c1,⟨⟨k,n,x⟩,rfl,hw,hv⟩,rfl,i1⟩ hos
 simp only[tt,seval,Cur.cs,Val.row]
 have hw:wl n:=hw
 have lit:∀n':Int,(k=1->0<=n')->(k≠1->n'=n)->ir ⟨k,n',x⟩=true:=fun n' h1 h2=>by
  rcases hv with h|⟨hk,hx⟩|⟨hk,hn,hx⟩|⟨hk,hn,hx⟩
  ·injection h with a b d
   subst a b d
   rw[h2 ae];decide
  ·have hk:k=1:=hk
   have hx:x=⟨#[]⟩:=hx
   subst hk hx
   have:=h1 rfl
   simp [ir,d4,this]
   exact Nat.zero_le _
  ·have hk:k=2:=hk
   have hn0:n=0:=hn
   have hx0:x.size<=40:=hx
   subst hk
   rw[h2 ae,hn0]
   have:x.size<=200:=by omega
   simp [ir,d4,hx0]
   omega
  ·have hk:k=3:=hk
   have hn:n=0∨n=1:=hn
   have hx:x=⟨#[]⟩:=hx
   subst hk hx
   rw[h2 ae]
   rcases hn with rfl|rfl<;>decide
 by_cases hk:k=1
 ·simp only[tt,seval,aF hk]
  refine ab (fun hn=>?_) (fun hn=>?_)
  ·try simp only[tt,seval,Cur.cs]
   refine⟨.ag (ar (Val.mk k 9223372036854775807 x).row),[c1.cs],⟨c1,⟨⟨k,9223372036854775807,x⟩,rfl,lit _ (fun _=>by decide) (fun h=>absurd hk h),by show (9223372036854775807:Int)<=_;omega,by show _<=(9223372036854775807:Int);omega⟩,rfl,i1⟩,au ?_⟩
   simp only[tt,seval,Val.row,Cur.cs]
  ·try simp only[tt,seval,Cur.cs]
   refine⟨.ag (ar (Val.mk k n x).row),[c1.cs],⟨c1,⟨⟨k,n,x⟩,rfl,lit _ (fun _=>by omega) (fun _=>rfl),hw.2,hw.1⟩,rfl,i1⟩,au ?_⟩
   simp only[tt,seval,Val.row,Cur.cs]
 ·simp only[tt,seval,aG hk]
  refine⟨.ag (ar (Val.mk k n x).row),[c1.cs],⟨c1,⟨⟨k,n,x⟩,rfl,lit _ (fun h=>absurd h hk) (fun _=>rfl),hw.2,hw.1⟩,rfl,i1⟩,au ?_⟩
  simp only[tt,seval,Val.row,Cur.cs]
end
theorem pY {α:Type} [Inhabited α] {F:(Expr->α)->Expr->α} (hF:∀e g g',(∀x,dZ x e->g x=g' x)->F g e=F g' e) (e:Expr):d7 F e=F (d7 F) e:=by
 rw[d7]
 exact hF _ _ _ fun x hx=>by simp only[dif_pos (jK hx)]
theorem lQ {α:Type} {g g':α->Bool} {l:List α} (h:∀x,x∈l->g x=g' x):l.all g=l.all g':=by
 induction l with
 |nil=>rfl
 |cons y r ih=>rw[List.all_cons,List.all_cons,h y (by simp),ih fun x hx=>h x (by simp [hx])]
theorem sk (e:Expr):fmE e=rc fmE e:=pY (fun e g g' h=>by
 obtain⟨k,o,n,v,q,m,ks,ss⟩:=e
 show (_&&(ks.all g&&ss.all (j4 g)))=(_&&(ks.all g'&&ss.all (j4 g')))
 rw[lQ (l:=ks) fun x hx=>h x (.inl hx),lQ (l:=ss) (g:=j4 g) (g':=j4 g') fun q hq=>by
  show (_&&_)=(_&&_)
  rw[lQ fun x hx=>h x (.inr ⟨q,hq,hx⟩)]]) e
theorem sm (e:Expr):ndE e=xy ndE e:=pY (fun e g g' h=>by
 obtain⟨k,o,n,v,q,m,ks,ss⟩:=e
 show 1+(ks.map g).sum+(ss.map fun q=>((exprsQ q).map g).sum).sum=1+(ks.map g').sum+(ss.map fun q=>((exprsQ q).map g').sum).sum
 rw[List.map_congr_left (l:=ks) fun x hx=>h x (.inl hx),List.map_congr_left (l:=ss) (f:=fun q=>((exprsQ q).map g).sum) (g:=fun q=>((exprsQ q).map g').sum) fun q hq=>by
  show ((exprsQ q).map g).sum=_
  rw[List.map_congr_left fun x hx=>h x (.inr ⟨q,hq,hx⟩)]]) e
theorem so (e:Expr):dpE e=Dz dpE e:=pY (fun e g g' h=>by
 obtain⟨k,o,n,v,q,m,ks,ss⟩:=e
 show 1+bO (ks.map g++ss.map fun q=>bO ((exprsQ q).map g))=1+bO (ks.map g'++ss.map fun q=>bO ((exprsQ q).map g'))
 rw[List.map_congr_left (l:=ks) fun x hx=>h x (.inl hx),List.map_congr_left (l:=ss) (f:=fun q=>bO ((exprsQ q).map g)) (g:=fun q=>bO ((exprsQ q).map g')) fun q hq=>by
  show bO ((exprsQ q).map g)=_
  rw[List.map_congr_left fun x hx=>h x (.inr ⟨q,hq,hx⟩)]]) e
def dN:Nat->Nat
 |0=>1
 |d+1=>1+3*dN d
theorem pZ:∀d,1<=dN d
 |0=>Nat.le_refl _
 |d+1=>by rw[dN];omega
theorem D1 {a b:Nat} (h:a<=b):dN a<=dN b:=by
 induction b with
 |zero=>rw[Nat.le_zero.1 h];exact Nat.le_refl _
 |succ b ih=>
  by_cases e:a=b+1
  ·subst e;exact Nat.le_refl _
  ·rw[dN];have:=ih aa;omega
structure DrE (d:Nat) (e:Expr):Prop where
 fm:fmE e=true
 rg:Rg e
 nn:ndE e<=dN d
 dp:dpE e<=d+1
 sz:szExpr e<=200*dN d
structure DrQ (d:Nat) (q:Query):Prop where
 hd:hdB q=true
 li:q.lim<=9223372036854775807
 ex:∀x,x∈exprsQ q->DrE d x
 few:(exprsQ q).length<=5
 sz:szQuery q<=400+1000*dN d
theorem DrQ.fm {d:Nat} {q:Query} (h:DrQ d q):j4 fmE q=true:=by
 unfold j4
 rw[h.hd,Bool.true_and];exact List.all_eq_true.2 fun x hx=>(h.ex x hx).fm
theorem dm {α:Type} {g:α->Nat} {b:Nat}:∀ {l:List α},(∀x,x∈l->g x<=b)->(l.map g).sum<=l.length*b
 | [],_=>by simp
 |x::r,h=>by
  have h1:=h x (by simp)
  have h2:=dm (l:=r) fun y hy=>h y (by simp [hy])
  rw[List.map_cons,List.sum_cons,List.length_cons,Nat.succ_mul];omega
theorem DrQ.nodes {d:Nat} {q:Query} (h:DrQ d q):((exprsQ q).map ndE).sum<=5*dN d:=by
 have h1:=dm (g:=ndE) fun x hx=>(h.ex x hx).nn
 exact Nat.le_trans h1 (Nat.mul_le_mul_right _ h.few)
theorem DrE.lit {v:Val} (h:ir v=true) (h1:v.num<=9223372036854775807) (h0 : -9223372036854775808<=v.num) (d:Nat):DrE d (.mk 1 0 false v ⟨#[]⟩ ⟨#[]⟩ [] []):=by
 have hp:=pZ d
 have ht:v.text.size<=40:=by
  unfold ir at h
  simp only[Bool.and_eq_true,decide_eq_true_eq] at h
  exact h.2.2
 refine⟨?_,.mk ⟨h0,h1⟩ (fun _ h=>by cases h) (fun _ h=>by cases h) (fun _ h=>by cases h),?_,?_,?_⟩
 ·rw[sk];simp [rc,ax,cA,bJ,h]
 ·rw[sm];show 1+0+0<=_;omega
 ·rw[so];show 1+0<=_;omega
 ·rw[aZ,aL,bI]
  show jt v+_<=_
  simp [jt]
  have e0:({ data:=#[] }:ByteArray).size=0:=rfl
  omega
theorem DrE.col {q n:ByteArray} (hn:bD n=true) (hq:cE q=true) (d:Nat):DrE d (.mk 2 0 false ⟨0,0,⟨#[]⟩⟩ q n [] []):=by
 have hp:=pZ d
 have h1:n.size<=20:=by
  simp only[bD,decide_eq_true_eq] at hn;omega
 have h2:q.size<=20:=by
  simp only[cE,bD,Bool.or_eq_true,decide_eq_true_eq] at hq
  rcases hq with rfl|hq
  ·decide
  ·omega
 refine⟨?_,.mk ⟨by show _<=(0:Int);omega,by show (0:Int)<=_;omega⟩ (fun _ h=>by cases h) (fun _ h=>by cases h) (fun _ h=>by cases h),?_,?_,?_⟩
 ·rw[sk];simp [rc,ax,cA,bJ,hn,hq,zV]
 ·rw[sm];show 1+0+0<=_;omega
 ·rw[so];show 1+0<=_;omega
 ·rw[aZ,aL,bI]
  simp [jt]
  have e0:({ data:=#[] }:ByteArray).size=0:=rfl
  omega
theorem DrE.kids {d:Nat} {kind op:Int} {not:Bool} {kids:List Expr} (hs:ax kind op not ⟨0,0,⟨#[]⟩⟩ ⟨#[]⟩ ⟨#[]⟩ kids.length 0=true) (hl:kids.length<=3) (hk:∀x,x∈kids->DrE d x):DrE (d+1) (.mk kind op not ⟨0,0,⟨#[]⟩⟩ ⟨#[]⟩ ⟨#[]⟩ kids []):=by
 have hp:=pZ d
 have s1:=dm (g:=ndE) fun x hx=>(hk x hx).nn
 have s2:=dm (g:=szExpr) fun x hx=>(hk x hx).sz
 have m1:=Nat.mul_le_mul_right (dN d) hl
 have m2:=Nat.mul_le_mul_right (200*dN d) hl
 refine⟨?_,.mk ⟨by show _<=(0:Int);omega,by show (0:Int)<=_;omega⟩ (fun x h=>(hk x h).rg) (fun _ h=>by cases h) (fun _ h=>by cases h),?_,?_,?_⟩
 ·rw[sk]
  show (ax kind op not _ _ _ _ _&&(kids.all fmE&&_))=true
  rw[show (([]:List Query).length:Int)=0 from rfl,hs,List.all_eq_true.2 fun x hx=>(hk x hx).fm];rfl
 ·rw[sm]
  show 1+(kids.map ndE).sum+0<=dN (d+1)
  rw[dN];omega
 ·rw[so]
  show 1+bO (kids.map dpE++[])<=_
  have:bO (kids.map dpE++[])<=d+1:=mr fun y hy=>by
   rw[List.append_nil] at hy
   obtain⟨x,hx,rfl⟩:=List.mem_map.1 hy
   exact (hk x hx).dp
  omega
 ·rw[aZ,aL,bI]
  show _<=200*dN (d+1)
  rw[dN]
  simp [jt]
  have e0:({ data:=#[] }:ByteArray).size=0:=rfl
  omega
theorem DrE.sub {d:Nat} {kind:Int} {not:Bool} {kids:List Expr} {q:Query} (hs:ax kind 0 not ⟨0,0,⟨#[]⟩⟩ ⟨#[]⟩ ⟨#[]⟩ kids.length 1=true) (hl:kids.length<=1) (hk:∀x,x∈kids->DrE (d+1) x) (hq:DrQ d q):DrE (d+2) (.mk kind 0 not ⟨0,0,⟨#[]⟩⟩ ⟨#[]⟩ ⟨#[]⟩ kids [q]):=by
 have hp:=pZ d
 have s1:=dm (g:=ndE) fun x hx=>(hk x hx).nn
 have s2:=dm (g:=szExpr) fun x hx=>(hk x hx).sz
 have m1:=Nat.mul_le_mul_right (dN (d+1)) hl
 have m2:=Nat.mul_le_mul_right (200*dN (d+1)) hl
 have s3:=hq.nodes
 have s4:=hq.sz
 have e1:dN (d+1)=1+3*dN d:=rfl
 have e2:dN (d+2)=1+3*dN (d+1):=rfl
 refine⟨?_,.mk ⟨by show _<=(0:Int);omega,by show (0:Int)<=_;omega⟩ (fun x h=>(hk x h).rg) (fun y h=>by rw[List.mem_singleton.1 h];exact hq.li) (fun y h x hx=>by rw[List.mem_singleton.1 h] at hx;exact (hq.ex x hx).rg),?_,?_,?_⟩
 ·rw[sk]
  show (ax kind 0 not _ _ _ _ _&&(kids.all fmE&&([q].all (j4 fmE))))=true
  rw[show (([q]:List Query).length:Int)=1 from rfl,hs,List.all_eq_true.2 fun x hx=>(hk x hx).fm,List.all_cons,hq.fm];rfl
 ·rw[sm]
  show 1+(kids.map ndE).sum+(((exprsQ q).map ndE).sum+0)<=dN (d+2)
  omega
 ·rw[so]
  show 1+bO (kids.map dpE++[bO ((exprsQ q).map dpE)])<=_
  have:bO (kids.map dpE++[bO ((exprsQ q).map dpE)])<=d+2:=mr fun y hy=>by
   rcases List.mem_append.1 hy with hy|hy
   ·obtain⟨x,hx,rfl⟩:=List.mem_map.1 hy
    exact (hk x hx).dp
   ·rw[List.mem_singleton.1 hy]
    refine mr fun z hz=>?_
    obtain⟨x,hx,rfl⟩:=List.mem_map.1 hz
    have:=(hq.ex x hx).dp;omega
  omega
 ·rw[aZ,aL,bI]
  show _<=200*dN (d+2)
  simp [jt]
  have e0:({ data:=#[] }:ByteArray).size=0:=rfl
  omega
def ItOk (d:Nat) (x:Item):Prop:=lN x=true/\lu x<=41+200*dN d/\(x.star=false->DrE d x.e)
def SrOk (d i:Nat) (x:Source):Prop:=lO i x=true/\dY x<=41+x.on.length*(1+200*dN d)/\∀e,e∈x.on->DrE d e
theorem Fj:ko (.mk 0 0 false ⟨0,0,⟨#[]⟩⟩ ⟨#[]⟩ ⟨#[]⟩ [] [])=true:=rfl
theorem xM {s:ByteArray} (h:bD s=true):s.size<=20:=by
 simp only[bD,decide_eq_true_eq] at h;omega
theorem wm {s:ByteArray} (h:cE s=true):s.size<=20:=by
 simp only[cE,bD,Bool.or_eq_true,decide_eq_true_eq] at h
 rcases h with rfl|h
 ·decide
 ·omega
theorem ItOk.star {d:Nat} {q:ByteArray} (h:cE q=true):ItOk d (.mk true q (.mk 0 0 false ⟨0,0,⟨#[]⟩⟩ ⟨#[]⟩ ⟨#[]⟩ [] []) ⟨#[]⟩):=by
 refine⟨by simp only[lN,if_true,h,Fj];rfl,?_,fun h=>by cases h⟩
 have:=wm h
 have e0:({ data:=#[] }:ByteArray).size=0:=rfl
 rw[kG,aZ,aL,bI]
 simp [jt]
 omega
theorem ItOk.ex {d:Nat} {e:Expr} {a:ByteArray} (he:DrE d e) (h:cE a=true):ItOk d (.mk false ⟨#[]⟩ e a):=by
 refine⟨by simp only[lN,h];rfl,?_,fun _=>he⟩
 have:=wm h
 have:=he.sz
 have e0:({ data:=#[] }:ByteArray).size=0:=rfl
 rw[kG]
 omega
theorem SrOk.mk' {d i:Nat} {t a:ByteArray} {on:List Expr} (ht:bD t=true) (ha:cE a=true) (h1:on.length<=1) (h0:i=0->on=[]) (ho:∀e,e∈on->DrE d e):SrOk d i (.mk t a on):=by
 refine⟨?_,?_,ho⟩
 ·simp only[lO,ht,ha,Bool.true_and,Bool.and_eq_true,decide_eq_true_eq,Bool.or_eq_true]
  refine⟨h1,?_⟩
  by_cases hi:i=0
  ·right;rw[h0 hi];rfl
  ·exact .inl hi
 ·have:=xM ht
  have:=wm ha
  have s2:=dm (g:=szExpr) fun x hx=>(ho x hx).sz
  rw[dw,aL]
  show _<=41+on.length*(1+200*dN d)
  rw[Nat.mul_add,Nat.mul_one]
  omega
theorem DrQ.mk' {d:Nat} {di:Bool} {it:List Item} {fr:List Source} {wh:List Expr} {od:List SortKey} {li:Int} (h1:1<=it.length) (h1':it.length<=2) (hi:∀x,x∈it->ItOk d x) (h2:1<=fr.length) (h2':fr.length<=2) (hf:∀(i:Nat) (h:i<fr.length),SrOk d i fr[i])
 (h3:wh.length<=1) (hw:∀e,e∈wh->DrE d e) (h4:od.length<=1) (ho:∀k,k∈od->DrE d k.e) (h5 : -1<=li) (h6:li<=9223372036854775807):DrQ d (.mk di it fr wh od li):=by
 have hp:=pZ d
 have hon:(fr.flatMap Source.on).length<=1:=by
  match fr,h2,h2',hf with
  | [a],_,_,hf=>
   have:=(hf 0 (by simp)).1
   obtain⟨t,x,on⟩:=a
   simp only[lO,List.getElem_cons_zero,Bool.and_eq_true,decide_eq_true_eq,Bool.or_eq_true] at this
   simp only[List.flatMap_cons,List.flatMap_nil,List.append_nil,Source.on]
   omega
  | [a,b],_,_,hf=>
   have p1:=(hf 0 (by simp)).1
   have p2:=(hf 1 (by simp)).1
   obtain⟨t,x,on⟩:=a
   obtain⟨t',x',on'⟩:=b
   simp only[lO,List.getElem_cons_zero,List.getElem_cons_succ,Bool.and_eq_true,decide_eq_true_eq,Bool.or_eq_true] at p1 p2
   simp only[List.flatMap_cons,List.flatMap_nil,List.append_nil,Source.on,aA]
   obtain⟨_,_,_,q2⟩:=p1
   obtain⟨_,_,q3,_⟩:=p2
   rcases q2 with q2|q2
   ·exact absurd trivial q2
   ·omega
 have hfm:∀x,x∈fr->∃i,SrOk d i x:=fun x hx=>by
  obtain⟨i,hi,rfl⟩:=List.mem_iff_getElem.1 hx
  exact⟨i,hf i hi⟩
 have hex:∀x,x∈exprsQ (.mk di it fr wh od li)->DrE d x:=fun x hx=>by
  simp only[exprsQ,List.mem_append] at hx
  rcases hx with ((hx|hx)|hx)|hx
  ·simp only[aU,List.mem_map,List.mem_filter] at hx
   obtain⟨y,⟨hy,hs⟩,rfl⟩:=hx
   exact (hi y hy).2.2 (by simpa using hs)
  ·obtain⟨y,hy,hx⟩:=List.mem_flatMap.1 hx
   obtain⟨i,hh⟩:=hfm y hy
   exact hh.2.2 x hx
  ·exact hw x hx
  ·obtain⟨y,hy,rfl⟩:=List.mem_map.1 hx
   exact ho y hy
 have hl1:=dz it
 refine⟨?_,h6,hex,?_,?_⟩
 ·unfold hdB
  simp only[Bool.and_eq_true,decide_eq_true_eq]
  exact⟨⟨h1,aa⟩,⟨h2,aa⟩,h3,aa,h5,List.all_eq_true.2 fun x hx=>(hi x hx).1,xA fun j hj=>(hf j hj).1⟩
 ·simp only[exprsQ,aA,List.length_map]
  omega
 ·have b1:=dm (g:=lu) (b:=41+200*dN d) fun x hx=>(hi x hx).2.1
  have b3:=dm (g:=szExpr) fun x hx=>(hw x hx).sz
  have b4:=dm (g:=gj) (b:=200*dN d) (l:=od) fun x hx=>by
   obtain⟨e,de⟩:=x
   rw[j6];exact (ho _ hx).sz
  have b2:(fr.map dY).sum<=82+(1+200*dN d):=by
   match fr,h2,h2',hf,hon with
   | [a],_,_,hf,hon=>
    have p1:=(hf 0 (by simp)).2.1
    simp only[List.getElem_cons_zero] at p1
    simp only[List.flatMap_cons,List.flatMap_nil,List.append_nil] at hon
    have:=Nat.mul_le_mul_right (1+200*dN d) hon
    simp only[List.map_cons,List.map_nil,List.sum_cons,List.sum_nil]
    omega
   | [a,b],_,_,hf,hon=>
    have p1:=(hf 0 (by simp)).2.1
    have p2:=(hf 1 (by simp)).2.1
    simp only[List.getElem_cons_zero,List.getElem_cons_succ] at p1 p2
    simp only[List.flatMap_cons,List.flatMap_nil,List.append_nil,aA] at hon
    have:=Nat.mul_le_mul_right (1+200*dN d) hon
    rw[Nat.add_mul] at this
    simp only[List.map_cons,List.map_nil,List.sum_cons,List.sum_nil]
    omega
  have m1:=Nat.mul_le_mul_right (41+200*dN d) h1'
  have m3:=Nat.mul_le_mul_right (200*dN d) h3
  have m4:=Nat.mul_le_mul_right (200*dN d) h4
  rw[dy,ei,dF,aL,cU]
  omega
section
variable [CodeOut]
theorem ze (l:List UInt8) {x:Int} (h0:0<=x) (h1:x<=255):bS l++[.lit (.int .u8 x)]=bS (l++[UInt8.ofNat x.toNat]):=by
 have:((UInt8.ofNat x.toNat).toNat:Int)=x:=by
  rw[UInt8.toNat_ofNat']
  omega
 simp [bS]
 omega
theorem zf:Cl Tryz.prog 173 [] [] fun r _=>r = .c (.sl 29 (sO.flatMap srow) none):=by
 refine am ah false Tryz.func173 rfl ac ?_
 simp only[tt,seval,Tryz.f173,BF,G9]
 refine⟨_,[],rfl,au ?_⟩
 simp only[tt,seval,sO,kws,srow]
theorem zg (c:Cur) (h0:0<=c.i) (n:Nat) (hn:n<=100):Cl Tryz.prog 174 [.c (.p 9000 0),vi n] [c.cs] (pW fun r=>∃l:List UInt8,r = .c (.sl l.length (bS l) none)/\l.length=n):=by
 refine am ah false Tryz.func174 rfl ac ?_
 simp only[Tryz.f174,tt,seval]
 refine dLoop.gh [.ren 7 18] ⟨ae,ae,?_⟩
 refine dLoop0.intro (fun f L p=>∃(i:Nat) (l:List UInt8) (c':Cur),f 6=vi i/\f 5 = .c (.s 18 l.length)/\l.length=i/\i<=n/\0<=c'.i/\L=[(18,.arr 5 (l).length (bS (l)) none),(9000,.str c'.cs)]/\p=none) (fun f _ _=>(n-eO (f 6)).toNat) [(18,.arr 5 (([]:List UInt8)).length (bS (([]:List UInt8))) none),(9000,.str c.cs)] none ⟨ak rfl (ak rfl (aq _)),av _,?_⟩ ?_
 ·simp only[tt,seval]
  exact⟨0,[],c,rfl,rfl,rfl,Nat.zero_le _,h0,rfl⟩
 ·rintro g L p ⟨i,l,c1,h6,h5,hl,hi,i1,rfl,rfl⟩
  simp only[tt,seval] at h6 h5
  simp only[tt,seval,h6,h5,Int.ofNat_lt]
  refine ab (fun hlt=>?_) (fun hge=>?_)
  ·try simp only[tt,seval,h6,h5]
   refine CallQ.intro (iZ c1 i1) ?_ ?_ ?_
   ·decide
   ·simp only[tt,seval,Cur.cs]
   rintro r os ⟨x,c2,rfl,rfl,hx,i2⟩ hos
   simp only[tt,seval,h6,Cur.cs]
   rw[IntWalk.u8_in x ⟨hx.1,aa⟩]
   refine sJ ?_
   rw[ze l hx.1 hx.2,show l.length+1=(l++[UInt8.ofNat x.toNat]).length by simp]
   try rw[dW i aa]
   exact⟨[(18,.arr 5 (l++[UInt8.ofNat x.toNat]).length (bS (l++[UInt8.ofNat x.toNat])) none),(9000,.str c2.cs)],none,ak rfl (ak rfl (aq _)),av _,⟨i+1,l++[UInt8.ofNat x.toNat],c2,rfl,rfl,by simp [hl],aa,i2,rfl,rfl⟩,aE⟩
  ·try simp only[tt,seval,h6,h5]
   refine⟨.c (.sl l.length (bS l) none),[c1.cs],⟨c1,⟨l,rfl,aa⟩,rfl,i1⟩,au ?_⟩
   simp only[tt,seval,Cur.cs]
theorem xN (c:Cur) (h0:0<=c.i):Cl Tryz.prog 116 [.c (.p 9000 0)] [c.cs] (pW fun r=>∃s:ByteArray,r=vs s/\s.size<=100):=by
 refine am ah false Tryz.func116 rfl ac ?_
 simp only[Tryz.f116,tt,seval]
 refine CallQ.intro (bf c h0 6) ?_ ?_ ?_
 ·decide
 ·simp only[tt,seval,Cur.cs]
 rintro r os ⟨y,c1,rfl,rfl,hy,i1⟩ hos
 simp only[tt,seval,Cur.cs]
 refine ab (fun h1=>?_) (fun h1=>ab (fun h2=>?_) (fun h2=>ab (fun h3=>?_) (fun h3=>?_)))
 ·try simp only[tt,seval,Cur.cs]
  refine eK [8] ?_
  simp only[tt,seval]
  refine Call1.intro (dD c1 i1 [⟨#[]⟩,⟨#[97,98,99,100,101,102,103,104,105,106,107,108,109,110,111,112,113,114,115,116]⟩,⟨#[97,98,99,100,101,102,103,104,105,106,107,108,109,110,111,112,113,114,115,116,117]⟩,⟨#[108,105,109,105,116]⟩,⟨#[76,73,77,73,84,83]⟩,⟨#[65,83,99]⟩,⟨#[57]⟩,⟨#[97,57]⟩,⟨#[195,169]⟩] ae) ?_ ?_ ?_
  ·decide
  ·simp only[tt,seval,Cur.cs,srow]
  rintro r os ⟨c2,⟨s,hs,rfl⟩,rfl,i2⟩ hos
  simp only[tt,seval,Cur.cs,srow]
  exact⟨_,_,⟨c2,⟨s,rfl,(by decide:∀w∈[⟨#[]⟩,⟨#[97,98,99,100,101,102,103,104,105,106,107,108,109,110,111,112,113,114,115,116]⟩,⟨#[97,98,99,100,101,102,103,104,105,106,107,108,109,110,111,112,113,114,115,116,117]⟩,⟨#[108,105,109,105,116]⟩,⟨#[76,73,77,73,84,83]⟩,⟨#[65,83,99]⟩,⟨#[57]⟩,⟨#[97,57]⟩,⟨#[195,169]⟩],w.size<=100) s hs⟩,rfl,i2⟩,iV rfl rfl⟩
 ·try simp only[tt,seval,Cur.cs]
  refine cZ (zf) ?_ ?_<;>simp only[tt,seval]
  refine CallQ.intro (bf c1 i1 29) ?_ ?_ ?_
  ·decide
  ·simp only[tt,seval,Cur.cs]
  rintro r os ⟨z,c2,rfl,rfl,hz,i2⟩ hos
  simp only[tt,seval,Cur.cs]
  have hz2:=hz.2 aa
  obtain⟨k,rfl⟩:∃k:Nat,z=k:=⟨z.toNat,aa⟩
  have hk:k<sO.length:=by show k<29;omega
  refine⟨aa,aa,_,aD jC (aC hk),oe _ _,?_⟩
  simp only[tt,seval,srow]
  exact⟨_,_,⟨c2,⟨_,rfl,(by decide:∀w∈sO,w.size<=100) _ (aH hk)⟩,rfl,i2⟩,iV rfl rfl⟩
 ·try simp only[tt,seval,Cur.cs]
  refine CallQ.intro (bf c1 i1 5) ?_ ?_ ?_
  ·decide
  ·simp only[tt,seval,Cur.cs]
  rintro r os ⟨z,c2,rfl,rfl,hz,i2⟩ hos
  simp only[tt,seval,Cur.cs]
  have hz2:=hz.2 aa
  obtain⟨k,rfl⟩:∃k:Nat,z=k:=⟨z.toNat,aa⟩
  refine CallQ.intro (zg c2 i2 k aa) ?_ ?_ ?_
  ·decide
  ·simp only[tt,seval,Cur.cs]
  rintro r os ⟨c3,⟨l,rfl,hl⟩,rfl,i3⟩ hos
  simp only[tt,seval,Cur.cs]
  refine⟨ac,by simp only[maxLen];omega,l,rfl,rfl,?_⟩
  simp only[tt,seval]
  exact⟨_,_,⟨c3,⟨⟨l.toArray⟩,rfl,by show l.toArray.size<=100;rw[List.size_toArray];omega⟩,rfl,i3⟩,iV rfl rfl⟩
 ·try simp only[tt,seval,Cur.cs]
  refine CallQ.intro (gM c1 i1) ?_ ?_ ?_
  ·decide
  ·simp only[tt,seval,Cur.cs]
  rintro r os ⟨c2,⟨s,rfl,hs⟩,rfl,i2⟩ hos
  simp only[tt,seval,Cur.cs]
  have hs2:s.size<=100:=Nat.le_trans (xM hs) aa
  exact⟨_,_,⟨c2,⟨s,rfl,hs2⟩,rfl,i2⟩,iV rfl rfl⟩
def Jt (v:Val):Prop:=wl v.num/\v.text.size<=1000
def DG:ByteArray:=⟨#[48,49,50,51,52,53,54,55,56,57]⟩
def Ju (Lo:Ob):Nat:=match Go.Dv.look Lo 3 with|some (.str [_,_,.v (.string x)])=>x.size|_=>0
theorem Fn {v:Val} (h:IK v):wl v.num/\v.text.size<=40:=by
 obtain⟨h1,h2⟩:=h
 refine⟨h1,?_⟩
 rcases h2 with rfl|⟨_,h⟩|⟨_,_,h⟩|⟨_,_,h⟩
 ·exact Nat.zero_le _
 ·rw[h];exact Nat.zero_le _
 ·exact h
 ·rw[h];exact Nat.zero_le _
set_option maxHeartbeats 4000000 in
theorem Bl (c:Cur) (h0:0<=c.i):Cl Tryz.prog 115 [.c (.p 9000 0)] [c.cs] (pW (HR Jt)):=by
 refine am ah false Tryz.func115 rfl ac ?_
 simp only[Tryz.f115,tt,seval]
 refine CallQ.intro (ri c h0) ?_ ?_ ?_
 ·decide
 ·simp only[tt,seval,Cur.cs,dj]
 rintro r os ⟨c1,⟨⟨k,n,x⟩,rfl,hv⟩,rfl,i1⟩ hos
 simp only[tt,seval,Cur.cs,dj,Val.row]
 obtain⟨hw,hx⟩:=Fn hv
 have hw:wl n:=hw
 have hx:x.size<=40:=hx
 refine CallQ.intro (bf c1 i1 14) ?_ ?_ ?_
 ·decide
 ·simp only[tt,seval,Cur.cs]
 rintro r os ⟨y,c2,rfl,rfl,hy,i2⟩ hos
 simp only[tt,seval,Cur.cs,dj]
 refine ab (fun h1=>?_) (fun h1=>ab (fun h2=>?_) (fun h2=>ab (fun h3=>?_) (fun h3=>?_)))
 ·try simp only[tt,seval,Cur.cs,dj,Val.row]
  refine CallQ.intro (bf c2 i2 6) ?_ ?_ ?_
  ·decide
  ·simp only[tt,seval,Cur.cs]
  rintro r os ⟨y2,c3,rfl,rfl,hy2,i3⟩ hos
  simp only[tt,seval,Cur.cs]
  refine⟨.ag (ar (Val.mk (IntKind.i64.wrap (y2-1)) n x).row),[Cur.cs c3],⟨c3,⟨⟨(IntKind.i64.wrap (y2-1)),n,x⟩,rfl,hw,(show x.size<=1000 by omega)⟩,rfl,i3⟩,au ?_⟩
  simp only[tt,seval,Cur.cs,Val.row]
 ·try simp only[tt,seval,Cur.cs,dj,Val.row]
  refine CallQ.intro (rh c2 i2) ?_ ?_ ?_
  ·decide
  ·simp only[tt,seval,Cur.cs]
  rintro r os ⟨c3,⟨m,rfl,hm⟩,rfl,i3⟩ hos
  simp only[tt,seval,Cur.cs]
  refine⟨.ag (ar (Val.mk k m x).row),[Cur.cs c3],⟨c3,⟨⟨k,m,x⟩,rfl,hm,(show x.size<=1000 by omega)⟩,rfl,i3⟩,au ?_⟩
  simp only[tt,seval,Cur.cs,Val.row]
 ·try simp only[tt,seval,Cur.cs,dj,Val.row]
  refine eK [22] ?_
  simp only[tt,seval]
  refine Call1.intro (dD c2 i2 [⟨#[120]⟩,⟨#[]⟩,⟨#[108,111,110,103]⟩] ae) ?_ ?_ ?_
  ·decide
  ·simp only[tt,seval,Cur.cs,srow]
  rintro r os ⟨c3,⟨s,hs,rfl⟩,rfl,i3⟩ hos
  simp only[tt,seval,Cur.cs,srow]
  have hs2:=(by decide:∀w∈[⟨#[120]⟩,⟨#[]⟩,⟨#[108,111,110,103]⟩],w.size<=7) s hs
  refine dLoop.intro (fun f Lo p=>∃(ce:Cur) (z:ByteArray),0<=ce.i/\z.size<=1000/\Lo=[(9000,.str (Cur.cs ce)),(3,.str [.v (.int .i64 k),.v (.int .i64 n),.v (.string z)]),(2,.str [.v (.int .i64 0),.v (.int .i64 0),.v (.string ByteArray.empty)])]/\p=none) (fun _ Lo _=>1000-Ju Lo) [(9000,.str (Cur.cs c3)),(3,.str [.v (.int .i64 k),.v (.int .i64 n),.v (.string s)]),(2,.str [.v (.int .i64 0),.v (.int .i64 0),.v (.string ByteArray.empty)])] none ⟨by simp only[Cur.cs];exact ak rfl (ak rfl (ak rfl (aq _))),av _,?_⟩ ?_
  ·exact⟨c3,s,i3,aa,rfl,rfl⟩
  ·rintro g Lo p ⟨ce,z,ic,hz,rfl,rfl⟩
   simp only[tt,seval,Cur.cs,dj]
   refine CallQ.intro (bu ce ic 2) ?_ ?_ ?_
   ·decide
   ·simp only[tt,seval,Cur.cs]
   rintro r os ⟨cf,⟨b,rfl⟩,rfl,ig⟩ hos
   simp only[tt,seval,Cur.cs]
   cases b
   ·try simp only[tt,seval]
    refine⟨.ag (ar (Val.mk k n z).row),[Cur.cs cf],⟨cf,⟨⟨k,n,z⟩,rfl,hw,(show z.size<=1000 by omega)⟩,rfl,ig⟩,au ?_⟩
    simp only[tt,seval,Cur.cs,Val.row]
   ·try simp only[tt,seval]
    refine fun _=>ab (fun hl=>?_) (fun hl=>?_)
    ·have hl:z.size<400:=by omega
     rw[kU aa]
     simp only[tt,seval]
     rw[kU (by rw[ByteArray.size_append];show z.size+z.size+10<=_;omega)]
     simp only[tt,seval]
     have hz3:(z++z++DG).size=2*z.size+10:=by rw[ByteArray.size_append,ByteArray.size_append];show z.size+z.size+10=_;omega
     refine⟨[(9000,.str (Cur.cs cf)),(3,.str [.v (.int .i64 k),.v (.int .i64 n),.v (.string (z++z++DG))]),(2,.str [.v (.int .i64 0),.v (.int .i64 0),.v (.string ByteArray.empty)])],none,by simp only[Cur.cs];exact ak rfl (ak rfl (ak rfl (aq _))),av _,⟨cf,z++z++DG,ig,aa,rfl,rfl⟩,?_⟩
     show 1000-(z++z++DG).size<1000-z.size
     omega
    ·try simp only[tt,seval,Cur.cs,dj,Val.row]
     refine⟨.ag (ar (Val.mk k n z).row),[Cur.cs cf],⟨cf,⟨⟨k,n,z⟩,rfl,hw,(show z.size<=1000 by omega)⟩,rfl,ig⟩,au ?_⟩
     simp only[tt,seval,Cur.cs,Val.row]
 ·try simp only[tt,seval,Cur.cs,dj,Val.row]
  refine⟨.ag (ar (Val.mk k n x).row),[Cur.cs c2],⟨c2,⟨⟨k,n,x⟩,rfl,hw,(show x.size<=1000 by omega)⟩,rfl,i2⟩,au ?_⟩
  simp only[tt,seval,Cur.cs,Val.row]
end
end Go.Proofs.YtoegnikpokgbfaaGreatDoor
set_option maxRecDepth 8000
namespace Go.Proofs.YtoegnikpokgbfaaGreatDoor
open Go Go.Dv
open Go.Vc (D cF cG cv aX)
open Go.Cv (ap ee)
section
variable [CodeOut]
def IL (d:Nat) (r:S):Prop:=∃(e:Expr) (Fk Fs:List (List Nat)),r = .ag (ap e.row [Fk,Fs])/\DrE d e
set_option maxHeartbeats 4000000 in
theorem sr (d:Nat) (c:Cur) (h0:0<=c.i):Cl Tryz.prog 107 [.c (.p 9000 0)] [c.cs] (pW (IL d)):=by
 refine am ah true Tryz.func107 rfl ac ?_
 simp only[Tryz.f107,tt,seval]
 refine eK [5] ?_
 simp only[tt,seval,Cur.cs]
 intro GF5
 refine Call1.intro (dD c h0 [⟨#[97]⟩,⟨#[98]⟩,⟨#[99]⟩,⟨#[105,100]⟩,⟨#[110,97,109,101]⟩] ae) ?_ ?_ ?_
 ·decide
 ·simp only[tt,seval,Cur.cs,srow]
 rintro r os ⟨c2,⟨s,hs,rfl⟩,rfl,ic2⟩ hos
 simp only[tt,seval,Cur.cs,srow]
 have hs2:bD s=true:=(by decide:∀s∈[⟨#[97]⟩,⟨#[98]⟩,⟨#[99]⟩,⟨#[105,100]⟩,⟨#[110,97,109,101]⟩],bD s=true) s hs
 refine CallQ.intro (bu c2 ic2 3) ?_ ?_ ?_
 ·decide
 ·simp only[tt,seval,Cur.cs,dj]
 rintro r os ⟨c3,⟨b,rfl⟩,rfl,i3⟩ hos
 simp only[tt,seval,Cur.cs,dj]
 refine ab (fun hb=>?_) (fun hb=>?_)
 ·skip
  refine eK [11] ?_
  simp only[tt,seval]
  intro GF11
  refine Call1.intro (dD c3 i3 [⟨#[116]⟩,⟨#[117]⟩,⟨#[118]⟩] ae) ?_ ?_ ?_
  ·decide
  ·simp only[tt,seval,Cur.cs,srow]
  rintro r os ⟨c4,⟨q,hq,rfl⟩,rfl,ic4⟩ hos
  simp only[tt,seval,Cur.cs,srow]
  have hq2:cE q=true:=(by decide:∀s∈[⟨#[116]⟩,⟨#[117]⟩,⟨#[118]⟩],cE s=true) q hq
  refine CallQ.intro (bu c4 ic4 12) ?_ ?_ ?_
  ·decide
  ·simp only[tt,seval,Cur.cs]
  rintro r os ⟨c7,⟨b7,rfl⟩,rfl,i7⟩ hos
  simp only[tt,seval,Cur.cs]
  refine ab (fun hb7=>?_) (fun hb7=>?_)
  ·skip
   refine CallQ.intro (gM c7 i7) ?_ ?_ ?_
   ·decide
   ·simp only[tt,seval,Cur.cs]
   rintro r os ⟨c8,⟨s8,rfl,hs8⟩,rfl,i8⟩ hos
   simp only[tt,seval,Cur.cs]
   refine⟨.ag (ap (Expr.mk 2 0 false ⟨0,0,⟨#[]⟩⟩ q s8 [] []).row [[],[]]),[c8.cs],⟨c8,⟨_,[],[],rfl,DrE.col (hs8) (hq2) d⟩,rfl,i8⟩,au ?_⟩
   simp only[tt,seval,ai,Cur.cs,ap]
   first|done|exact Iy
  ·skip
   refine⟨.ag (ap (Expr.mk 2 0 false ⟨0,0,⟨#[]⟩⟩ q s [] []).row [[],[]]),[c7.cs],⟨c7,⟨_,[],[],rfl,DrE.col (hs2) (hq2) d⟩,rfl,i7⟩,au ?_⟩
   simp only[tt,seval,ai,Cur.cs,ap]
   first|done|exact Iy
 ·skip
  refine CallQ.intro (bu c3 i3 12) ?_ ?_ ?_
  ·decide
  ·simp only[tt,seval,Cur.cs]
  rintro r os ⟨c7,⟨b7,rfl⟩,rfl,i7⟩ hos
  simp only[tt,seval,Cur.cs]
  refine ab (fun hb7=>?_) (fun hb7=>?_)
  ·skip
   refine CallQ.intro (gM c7 i7) ?_ ?_ ?_
   ·decide
   ·simp only[tt,seval,Cur.cs]
   rintro r os ⟨c8,⟨s8,rfl,hs8⟩,rfl,i8⟩ hos
   simp only[tt,seval,Cur.cs]
   refine⟨.ag (ap (Expr.mk 2 0 false ⟨0,0,⟨#[]⟩⟩ ⟨#[]⟩ s8 [] []).row [[],[]]),[c8.cs],⟨c8,⟨_,[],[],rfl,DrE.col (hs8) (ae) d⟩,rfl,i8⟩,au ?_⟩
   simp only[tt,seval,ai,Cur.cs,ap]
   first|done|exact uZ
  ·skip
   refine⟨.ag (ap (Expr.mk 2 0 false ⟨0,0,⟨#[]⟩⟩ ⟨#[]⟩ s [] []).row [[],[]]),[c7.cs],⟨c7,⟨_,[],[],rfl,DrE.col (hs2) (ae) d⟩,rfl,i7⟩,au ?_⟩
   simp only[tt,seval,ai,Cur.cs,ap]
   first|done|exact uZ
end
section
variable [CodeOut]
theorem H5 (l:List Expr) (k0 o0:Int) (n0:Bool) (v0:Val) (q0 m0:ByteArray) (ks0:List Expr) (ss0:List Query):l.flatMap Expr.row++[int k0,int o0,bool n0,int v0.kind,int v0.num,str v0.text,str q0,str m0,.sl ks0.length (ks0.flatMap Expr.row),.sl ss0.length (ss0.flatMap Query.row)]=(l++[Expr.mk k0 o0 n0 v0 q0 m0 ks0 ss0]).flatMap Expr.row:=by
 rw[List.flatMap_append,List.flatMap_cons,List.flatMap_nil,List.append_nil,ai]
def H6 (d:Nat):Prop:=∀(c:Cur) (_:0<=c.i),Cl Tryz.prog 48 [.c (.p 9000 0),vi d] [c.cs] (pW (IL d))
def Jv (d:Nat) (r:S):Prop:=∃(q:Query) (F1 F2 F3 F4:List (List Nat)),r = .ag (ap q.row [F1,F2,F3,F4])/\DrQ d q
def Ft (d:Nat):Prop:=∀(c:Cur) (_:0<=c.i),Cl Tryz.prog 110 [.c (.p 9000 0),vi d] [c.cs] (pW (Jv d))
def IM (d n:Nat) (r:S):Prop:=∃(l:List Expr) (F:List (List Nat)),r = .c (.ow 29 l.length (l.flatMap Expr.row) (some F))/\l.length=n/\∀x,x∈l->DrE d x
set_option maxHeartbeats 2000000 in
theorem uv (d:Nat) (hd9:d<=100) (hE:H6 d) (n:Nat) (hn:n<=100) (c:Cur) (h0:0<=c.i):Cl Tryz.prog 109 [.c (.p 9000 0),vi (d+1:Nat),vi n] [c.cs] (pW (IM d n)):=by
 have hdd:IntKind.i64.wrap (((d+1:Nat):Int)-1)=d:=by rw[aI aa aa];omega
 refine am ah true Tryz.func109 rfl ac ?_
 simp only[Tryz.f109,tt,seval]
 refine dLoop.gh [.ren 9 21] ⟨ae,ae,?_⟩
 refine dLoop0.intro (fun f L p=>∃(i:Nat) (l:List Expr) (c':Cur) (Fl Pl:List (List Nat)),f 8=vi i/\f 7 = .c (.s 21 l.length)/\l.length=i/\i<=n/\(∀x,x∈l->DrE d x)/\0<=c'.i/\Sb Fl.flatten Pl.flatten/\L=[(21,.arr 29 (l).length ((l).flatMap Expr.row) (some (Fl))),(9000,.str c'.cs)]/\p=some Pl) (fun f _ _=>(n-eO (f 8)).toNat) [(21,.arr 29 (([]:List Expr)).length ((([]:List Expr)).flatMap Expr.row) (some ([]))),(9000,.str c.cs)] (some []) ⟨ak rfl (ak rfl (aq _)),PoSub.refl _,?_⟩ ?_
 ·simp only[tt,seval]
  exact⟨0,[],c,[],[],rfl,rfl,rfl,Nat.zero_le _,(fun x h=>by cases h),h0,Sb.refl _,rfl,rfl⟩
 ·rintro g L p ⟨i,l,c1,Fl,Pl,h8,h7,hl,hi,hal,i1,hsb,rfl,rfl⟩
  simp only[tt,seval] at h8 h7
  simp only[tt,seval,h8,h7,hdd,Int.ofNat_lt]
  refine ab (fun hlt=>?_) (fun hge=>?_)
  ·try simp only[tt,seval,h8,h7,hdd]
   refine CallQ.intro (hE c1 i1) ?_ ?_ ?_
   ·decide
   ·simp only[tt,seval,Cur.cs]
   rintro r os ⟨c2,⟨⟨k,o,nn,v,q,m,ks,ss⟩,Fk,Fs,rfl,he⟩,rfl,i2⟩ hos
   simp only[tt,seval,h8,ai,Cur.cs,ap]
   refine sJ ?_
   rw[H5,show l.length+1=(l++[Expr.mk k o nn v q m ks ss]).length by simp]
   try rw[dW i aa]
   exact⟨[(21,.arr 29 (l++[Expr.mk k o nn v q m ks ss]).length ((l++[Expr.mk k o nn v q m ks ss]).flatMap Expr.row) (some (Fl++(Fk++Fs)))),(9000,.str c2.cs)],some (Pl++(Fk++Fs)),ak rfl (ak rfl (aq _)),PoSub.refl _,⟨i+1,l++[Expr.mk k o nn v q m ks ss],c2,_,_,rfl,rfl,by simp [hl],aa,fun x hx=>by
    rcases List.mem_append.1 hx with h|h
    ·exact hal x h
    ·rw[List.mem_singleton.1 h];exact he,i2,fun x=>by have:=hsb x;simp only[List.flatten_append,List.count_append] at this ⊢;omega,rfl,rfl⟩,aE⟩
  ·try simp only[tt,seval,h8,h7]
   refine⟨.c (.ow 29 l.length (l.flatMap Expr.row) (some Fl)),[c1.cs],⟨c1,⟨l,Fl,rfl,aa,hal⟩,rfl,i1⟩,au ?_⟩
   simp only[tt,seval,Cur.cs]
   exact hsb
end
section
variable [CodeOut]
set_option maxHeartbeats 8000000 in
theorem uw (d:Nat) (hd9:d<=50) (hK:∀d2,d=d2+1->∀(n:Nat) (m:Int),m=n->n<=100->∀(c:Cur) (_:0<=c.i),Cl Tryz.prog 109 [.c (.p 9000 0),vi d,vi m] [c.cs] (pW (IM d2 n))) (hQ:∀d3,d=d3+2->Ft d3):H6 d:=by
 intro c h0
 have hdd:True:=trivial
 have hdd2:True:=trivial
 refine am ah true Tryz.func48 rfl ac ?_
 simp only[Tryz.f48,tt,seval]
 by_cases hd0:(d:Int)<=0
 ·simp only[tt,seval,aF hd0]
  refine CallQ.intro (bu c h0 2) ?_ ?_ ?_
  ·decide
  ·simp only[tt,seval,Cur.cs,dj]
  rintro r os ⟨c5,⟨b5,rfl⟩,rfl,i5⟩ hos
  simp only[tt,seval,Cur.cs,dj]
  refine ab (fun hb5=>?_) (fun hb5=>?_)
  ·skip
   refine CallQ.intro (sr d c5 i5) ?_ ?_ ?_
   ·decide
   ·simp only[tt,seval,Cur.cs]
   rintro r os ⟨c6,⟨⟨k,o,n,v,q,m,ks,ss⟩,Fk,Fs,rfl,he⟩,rfl,i6⟩ hos
   simp only[tt,seval,ai,Cur.cs,ap]
   refine⟨.ag (ap (Expr.mk k o n v q m ks ss).row [Fk,Fs]),[c6.cs],⟨c6,⟨_,Fk,Fs,rfl,he⟩,rfl,i6⟩,au ?_⟩
   simp only[tt,seval,ai,Cur.cs,ap]
   first|done|exact lW
  ·skip
   refine CallQ.intro (rj c5 i5) ?_ ?_ ?_
   ·decide
   ·simp only[tt,seval,Cur.cs]
   rintro r os ⟨c6,⟨⟨k,n,x⟩,rfl,hv⟩,rfl,i6⟩ hos
   simp only[tt,seval,Cur.cs,dj,Val.row]
   refine⟨.ag (ap (Expr.mk 1 0 false ⟨k,n,x⟩ ⟨#[]⟩ ⟨#[]⟩ [] []).row [[],[]]),[c6.cs],⟨c6,⟨_,[],[],rfl,DrE.lit hv.1 hv.2.1 hv.2.2 d⟩,rfl,i6⟩,au ?_⟩
   simp only[tt,seval,ai,Cur.cs,ap]
   first|done|exact uZ
 ·simp only[tt,seval,aG hd0]
  refine CallQ.intro (bu c h0 5) ?_ ?_ ?_
  ·decide
  ·simp only[tt,seval,Cur.cs,dj]
  rintro r os ⟨c1,⟨b1,rfl⟩,rfl,i1⟩ hos
  simp only[tt,seval,Cur.cs,dj]
  refine ab (fun hb1=>?_) (fun hb1=>?_)
  ·try simp only[tt,seval]
   refine CallQ.intro (bu c1 i1 2) ?_ ?_ ?_
   ·decide
   ·simp only[tt,seval,Cur.cs]
   rintro r os ⟨c5,⟨b5,rfl⟩,rfl,i5⟩ hos
   simp only[tt,seval,Cur.cs]
   refine ab (fun hb5=>?_) (fun hb5=>?_)
   ·skip
    refine CallQ.intro (sr d c5 i5) ?_ ?_ ?_
    ·decide
    ·simp only[tt,seval,Cur.cs]
    rintro r os ⟨c6,⟨⟨k,o,n,v,q,m,ks,ss⟩,Fk,Fs,rfl,he⟩,rfl,i6⟩ hos
    simp only[tt,seval,ai,Cur.cs,ap]
    refine⟨.ag (ap (Expr.mk k o n v q m ks ss).row [Fk,Fs]),[c6.cs],⟨c6,⟨_,Fk,Fs,rfl,he⟩,rfl,i6⟩,au ?_⟩
    simp only[tt,seval,ai,Cur.cs,ap]
    first|done|exact lW
   ·skip
    refine CallQ.intro (rj c5 i5) ?_ ?_ ?_
    ·decide
    ·simp only[tt,seval,Cur.cs]
    rintro r os ⟨c6,⟨⟨k,n,x⟩,rfl,hv⟩,rfl,i6⟩ hos
    simp only[tt,seval,Cur.cs,dj,Val.row]
    refine⟨.ag (ap (Expr.mk 1 0 false ⟨k,n,x⟩ ⟨#[]⟩ ⟨#[]⟩ [] []).row [[],[]]),[c6.cs],⟨c6,⟨_,[],[],rfl,DrE.lit hv.1 hv.2.1 hv.2.2 d⟩,rfl,i6⟩,au ?_⟩
    simp only[tt,seval,ai,Cur.cs,ap]
    first|done|exact uZ
  ·try simp only[tt,seval]
   obtain⟨d2,hd⟩:∃d2,d2+1=d:=⟨d-1,aa⟩
   have hK:=hK d2 hd.symm
   refine CallQ.intro (bf c1 i1 12) ?_ ?_ ?_
   ·decide
   ·simp only[tt,seval,Cur.cs]
   rintro r os ⟨x,c2,rfl,rfl,hx,i2⟩ hos
   simp only[tt,seval,Cur.cs]
   refine ab (fun hx0=>?_) (fun hx0=>?_)
   ·try simp only[tt,seval,Cur.cs,dj,hdd,hdd2]
    refine CallQ.intro (hK (1) (1) (rfl) aa c2 i2) ?_ ?_ ?_
    ·decide
    ·simp only[tt,seval,Cur.cs]
    rintro r os ⟨c3,⟨l,F,rfl,hll,hal⟩,rfl,ic3⟩ hos
    simp only[tt,seval,Cur.cs,dj]
    intro G
    refine⟨.ag (ap (Expr.mk 3 15 false ⟨0,0,⟨#[]⟩⟩ ⟨#[]⟩ ⟨#[]⟩ l []).row [(G::F),[]]),[c3.cs],⟨c3,⟨_,(G::F),[],rfl,hd▸DrE.kids (by simp [ax,cA,bJ,zV,hll]) aa hal⟩,rfl,ic3⟩,au ?_⟩
    simp only[tt,seval,ai,Cur.cs,ap]
    first|done|exact Di
   ·try simp only[tt,seval,Cur.cs,dj,hdd,hdd2]
    refine ab (fun hx1=>?_) (fun hx1=>?_)
    ·try simp only[tt,seval,Cur.cs,dj,hdd,hdd2]
     refine CallQ.intro (hK (1) (1) (rfl) aa c2 i2) ?_ ?_ ?_
     ·decide
     ·simp only[tt,seval,Cur.cs]
     rintro r os ⟨c3,⟨l,F,rfl,hll,hal⟩,rfl,ic3⟩ hos
     simp only[tt,seval,Cur.cs,dj]
     intro G
     refine⟨.ag (ap (Expr.mk 3 16 false ⟨0,0,⟨#[]⟩⟩ ⟨#[]⟩ ⟨#[]⟩ l []).row [(G::F),[]]),[c3.cs],⟨c3,⟨_,(G::F),[],rfl,hd▸DrE.kids (by simp [ax,cA,bJ,zV,hll]) aa hal⟩,rfl,ic3⟩,au ?_⟩
     simp only[tt,seval,ai,Cur.cs,ap]
     first|done|exact Di
    ·try simp only[tt,seval,Cur.cs,dj,hdd,hdd2]
     refine ab (fun hx2=>?_) (fun hx2=>?_)
     ·try simp only[tt,seval,Cur.cs,dj,hdd,hdd2]
      refine CallQ.intro (bu c2 i2 2) ?_ ?_ ?_
      ·decide
      ·simp only[tt,seval,Cur.cs]
      rintro r os ⟨c3,⟨bn,rfl⟩,rfl,ic3⟩ hos
      simp only[tt,seval,Cur.cs]
      refine CallQ.intro (hK (1) (1) (rfl) aa c3 ic3) ?_ ?_ ?_
      ·decide
      ·simp only[tt,seval,Cur.cs]
      rintro r os ⟨c4,⟨l,F,rfl,hll,hal⟩,rfl,ic4⟩ hos
      simp only[tt,seval,Cur.cs,dj]
      intro G
      refine⟨.ag (ap (Expr.mk 5 0 bn ⟨0,0,⟨#[]⟩⟩ ⟨#[]⟩ ⟨#[]⟩ l []).row [(G::F),[]]),[c4.cs],⟨c4,⟨_,(G::F),[],rfl,hd▸DrE.kids (by simp [ax,cA,bJ,zV,hll]) aa hal⟩,rfl,ic4⟩,au ?_⟩
      simp only[tt,seval,ai,Cur.cs,ap]
      first|done|exact Di
     ·try simp only[tt,seval,Cur.cs,dj,hdd,hdd2]
      refine ab (fun hx3=>?_) (fun hx3=>?_)
      ·try simp only[tt,seval,Cur.cs,dj,hdd,hdd2]
       refine CallQ.intro (bu c2 i2 2) ?_ ?_ ?_
       ·decide
       ·simp only[tt,seval,Cur.cs]
       rintro r os ⟨c3,⟨bn,rfl⟩,rfl,ic3⟩ hos
       simp only[tt,seval,Cur.cs]
       refine CallQ.intro (hK (3) (3) (rfl) aa c3 ic3) ?_ ?_ ?_
       ·decide
       ·simp only[tt,seval,Cur.cs]
       rintro r os ⟨c4,⟨l,F,rfl,hll,hal⟩,rfl,ic4⟩ hos
       simp only[tt,seval,Cur.cs,dj]
       intro G
       refine⟨.ag (ap (Expr.mk 6 0 bn ⟨0,0,⟨#[]⟩⟩ ⟨#[]⟩ ⟨#[]⟩ l []).row [(G::F),[]]),[c4.cs],⟨c4,⟨_,(G::F),[],rfl,hd▸DrE.kids (by simp [ax,cA,bJ,zV,hll]) aa hal⟩,rfl,ic4⟩,au ?_⟩
       simp only[tt,seval,ai,Cur.cs,ap]
       first|done|exact Di
      ·try simp only[tt,seval,Cur.cs,dj,hdd,hdd2]
       refine ab (fun hx4=>?_) (fun hx4=>?_)
       ·try simp only[tt,seval,Cur.cs,dj,hdd,hdd2]
        refine CallQ.intro (bu c2 i2 2) ?_ ?_ ?_
        ·decide
        ·simp only[tt,seval,Cur.cs]
        rintro r os ⟨c3,⟨bn,rfl⟩,rfl,ic3⟩ hos
        simp only[tt,seval,Cur.cs]
        refine CallQ.intro (bf c3 ic3 2) ?_ ?_ ?_
        ·decide
        ·simp only[tt,seval,Cur.cs]
        rintro r os ⟨y,c4,rfl,rfl,hy,i4⟩ hos
        simp only[tt,seval,Cur.cs]
        have hy2:=hy.2 aa
        obtain⟨yn,rfl⟩:∃yn:Nat,y=yn:=⟨y.toNat,aa⟩
        rw[aI (n:=(2:Int)+(yn:Int)) aa aa]
        refine CallQ.intro (hK (2+yn) ((2:Int)+(yn:Int)) aa aa c4 i4) ?_ ?_ ?_
        ·decide
        ·simp only[tt,seval,Cur.cs]
        rintro r os ⟨c7,⟨l,F,rfl,hll,hal⟩,rfl,ic7⟩ hos
        simp only[tt,seval,Cur.cs,dj]
        have hsh:ax 7 0 bn ⟨0,0,⟨#[]⟩⟩ ⟨#[]⟩ ⟨#[]⟩ l.length 0=true:=by
         have:yn=0∨yn=1:=by omega
         rcases this with rfl|rfl<;>simp [ax,cA,bJ,zV,hll]
        intro G
        refine⟨.ag (ap (Expr.mk 7 0 bn ⟨0,0,⟨#[]⟩⟩ ⟨#[]⟩ ⟨#[]⟩ l []).row [(G::F),[]]),[c7.cs],⟨c7,⟨_,(G::F),[],rfl,hd▸DrE.kids hsh aa hal⟩,rfl,ic7⟩,au ?_⟩
        simp only[tt,seval,ai,Cur.cs,ap]
        first|done|exact Di
       ·try simp only[tt,seval,Cur.cs,dj,hdd,hdd2]
        refine ab (fun hx5=>?_) (fun hx5=>?_)
        ·try simp only[tt,seval,Cur.cs,dj,hdd,hdd2]
         refine ab (fun hg=>?_) (fun hg=>?_)
         ·obtain⟨d3,hd3⟩:∃d3,d2=d3+1:=⟨d2-1,aa⟩
          have hdq:IntKind.i64.wrap ((d:Int)-2)=d3:=by rw[aI aa aa];omega
          refine CallQ.intro (bu c2 i2 2) ?_ ?_ ?_
          ·decide
          ·simp only[tt,seval,Cur.cs]
          rintro r os ⟨c3,⟨bn,rfl⟩,rfl,ic3⟩ hos
          simp only[tt,seval,Cur.cs]
          refine CallQ.intro (hK (1) (1) (rfl) aa c3 ic3) ?_ ?_ ?_
          ·decide
          ·simp only[tt,seval,Cur.cs]
          rintro r os ⟨c4,⟨l,F,rfl,hll,hal⟩,rfl,ic4⟩ hos
          simp only[tt,seval,Cur.cs]
          simp only[seval,hdq]
          refine CallQ.intro (hQ d3 aa c4 ic4) ?_ ?_ ?_
          ·decide
          ·simp only[tt,seval,Cur.cs]
          rintro r os ⟨c7,⟨⟨qd,qi,qf,qw,qo,ql⟩,F1,F2,F3,F4,rfl,hq⟩,rfl,i7⟩ hos
          simp only[tt,seval,bj,Cur.cs,dj,ap]
          intro G G2
          refine⟨.ag (ap (Expr.mk 8 0 bn ⟨0,0,⟨#[]⟩⟩ ⟨#[]⟩ ⟨#[]⟩ l [(Query.mk qd qi qf qw qo ql)]).row [(G::F),(G2::(F1++(F2++(F3++F4))))]),[c7.cs],⟨c7,⟨_,(G::F),(G2::(F1++(F2++(F3++F4)))),rfl,(show d3+2=d by omega)▸DrE.sub (by simp [ax,cA,bJ,zV,hll]) aa (fun x hx=>hd3▸hal x hx) hq⟩,rfl,i7⟩,au ?_⟩
          simp only[tt,seval,ai,bj,Cur.cs,ap]
          first|done|exact Iz
         ·try simp only[tt,seval,Cur.cs,dj,hdd,hdd2]
          refine CallQ.intro (bf c2 i2 14) ?_ ?_ ?_
          ·decide
          ·simp only[tt,seval,Cur.cs]
          rintro r os ⟨y,c4,rfl,rfl,hy,i4⟩ hos
          simp only[tt,seval,Cur.cs]
          have hy2:=hy.2 aa
          rw[aI (n:=(1:Int)+y) aa aa]
          refine CallQ.intro (hK (2) (2) (rfl) aa c4 i4) ?_ ?_ ?_
          ·decide
          ·simp only[tt,seval,Cur.cs]
          rintro r os ⟨c7,⟨l,F,rfl,hll,hal⟩,rfl,ic7⟩ hos
          simp only[tt,seval,Cur.cs,dj]
          intro G
          refine⟨.ag (ap (Expr.mk 4 ((1:Int)+y) false ⟨0,0,⟨#[]⟩⟩ ⟨#[]⟩ ⟨#[]⟩ l []).row [(G::F),[]]),[c7.cs],⟨c7,⟨_,(G::F),[],rfl,hd▸DrE.kids (by simp [ax,cA,bJ,zV,hll];omega) aa hal⟩,rfl,ic7⟩,au ?_⟩
          simp only[tt,seval,ai,Cur.cs,ap]
          first|done|exact Di
        ·try simp only[tt,seval,Cur.cs,dj,hdd,hdd2]
         refine ab (fun hx6=>?_) (fun hx6=>?_)
         ·try simp only[tt,seval,Cur.cs,dj,hdd,hdd2]
          refine ab (fun hg=>?_) (fun hg=>?_)
          ·obtain⟨d3,hd3⟩:∃d3,d2=d3+1:=⟨d2-1,aa⟩
           have hdq:IntKind.i64.wrap ((d:Int)-2)=d3:=by rw[aI aa aa];omega
           simp only[seval,hdq]
           refine CallQ.intro (hQ d3 aa c2 i2) ?_ ?_ ?_
           ·decide
           ·simp only[tt,seval,Cur.cs]
           rintro r os ⟨c7,⟨⟨qd,qi,qf,qw,qo,ql⟩,F1,F2,F3,F4,rfl,hq⟩,rfl,i7⟩ hos
           simp only[tt,seval,bj,Cur.cs,dj,ap]
           intro G
           refine⟨.ag (ap (Expr.mk 9 0 false ⟨0,0,⟨#[]⟩⟩ ⟨#[]⟩ ⟨#[]⟩ [] [(Query.mk qd qi qf qw qo ql)]).row [[],(G::(F1++(F2++(F3++F4))))]),[c7.cs],⟨c7,⟨_,[],(G::(F1++(F2++(F3++F4)))),rfl,(show d3+2=d by omega)▸DrE.sub (by simp [ax,cA,bJ,zV]) (by simp) (fun x hx=>by cases hx) hq⟩,rfl,i7⟩,au ?_⟩
           simp only[tt,seval,ai,bj,Cur.cs,ap]
           first|done|exact lW
          ·try simp only[tt,seval,Cur.cs,dj,hdd,hdd2]
           refine CallQ.intro (bf c2 i2 14) ?_ ?_ ?_
           ·decide
           ·simp only[tt,seval,Cur.cs]
           rintro r os ⟨y,c4,rfl,rfl,hy,i4⟩ hos
           simp only[tt,seval,Cur.cs]
           have hy2:=hy.2 aa
           rw[aI (n:=(1:Int)+y) aa aa]
           refine CallQ.intro (hK (2) (2) (rfl) aa c4 i4) ?_ ?_ ?_
           ·decide
           ·simp only[tt,seval,Cur.cs]
           rintro r os ⟨c7,⟨l,F,rfl,hll,hal⟩,rfl,ic7⟩ hos
           simp only[tt,seval,Cur.cs,dj]
           intro G
           refine⟨.ag (ap (Expr.mk 4 ((1:Int)+y) false ⟨0,0,⟨#[]⟩⟩ ⟨#[]⟩ ⟨#[]⟩ l []).row [(G::F),[]]),[c7.cs],⟨c7,⟨_,(G::F),[],rfl,hd▸DrE.kids (by simp [ax,cA,bJ,zV,hll];omega) aa hal⟩,rfl,ic7⟩,au ?_⟩
           simp only[tt,seval,ai,Cur.cs,ap]
           first|done|exact Di
         ·try simp only[tt,seval,Cur.cs,dj,hdd,hdd2]
          refine CallQ.intro (bf c2 i2 14) ?_ ?_ ?_
          ·decide
          ·simp only[tt,seval,Cur.cs]
          rintro r os ⟨y,c4,rfl,rfl,hy,i4⟩ hos
          simp only[tt,seval,Cur.cs]
          have hy2:=hy.2 aa
          rw[aI (n:=(1:Int)+y) aa aa]
          refine CallQ.intro (hK (2) (2) (rfl) aa c4 i4) ?_ ?_ ?_
          ·decide
          ·simp only[tt,seval,Cur.cs]
          rintro r os ⟨c7,⟨l,F,rfl,hll,hal⟩,rfl,ic7⟩ hos
          simp only[tt,seval,Cur.cs,dj]
          intro G
          refine⟨.ag (ap (Expr.mk 4 ((1:Int)+y) false ⟨0,0,⟨#[]⟩⟩ ⟨#[]⟩ ⟨#[]⟩ l []).row [(G::F),[]]),[c7.cs],⟨c7,⟨_,(G::F),[],rfl,hd▸DrE.kids (by simp [ax,cA,bJ,zV,hll];omega) aa hal⟩,rfl,ic7⟩,au ?_⟩
          simp only[tt,seval,ai,Cur.cs,ap]
          first|done|exact Di
end
section
variable [CodeOut]
set_option maxHeartbeats 16000000 in
theorem su (d:Nat) (hd9:d<=50) (hE:H6 d):Ft d:=by
 intro c h0
 refine am ah true Tryz.func110 rfl ac ?_
 simp only[Tryz.f110,tt,seval]
 refine CallQ.intro (bu c h0 4) ?_ ?_ ?_
 ·decide
 ·simp (maxSteps:=9999999) only[tt,seval,Cur.cs]
 rintro r os ⟨c1,⟨di,rfl⟩,rfl,i1⟩ hos
 simp (maxSteps:=9999999) only[tt,seval,Cur.cs]
 refine CallQ.intro (bf c1 i1 2) ?_ ?_ ?_
 ·decide
 ·simp (maxSteps:=9999999) only[tt,seval,Cur.cs]
 rintro r os ⟨y,c2,rfl,rfl,hy,i2⟩ hos
 simp (maxSteps:=9999999) only[tt,seval,Cur.cs]
 have hy2:=hy.2 aa
 obtain⟨n0,hn0⟩:∃n0:Nat,(1:Int)+y=n0:=⟨((1:Int)+y).toNat,aa⟩
 rw[aI (n:=(1:Int)+y) aa aa,hn0]
 have hn01:1<=n0:=by omega
 have hn02:n0<=2:=by omega
 clear hn0 hy hy2
 refine dLoop.gh [.virtC 5 1 10045 132] ⟨ae,?_⟩
 simp (maxSteps:=9999999) only[tt,seval]
 refine dLoop0.introR (fun f L p=>∃(i:Nat) (l:List Item) (c':Cur) (Fl Pl:List (List Nat)),f 7=vi i/\l.length=i/\i<=n0/\(∀x,x∈l->ItOk d x)/\0<=c'.i/\Sb Fl.flatten Pl.flatten/\L=[(9000,.str c'.cs),(5,.str [.v (.bool di),.s 10045 (l).length,.v (.slice none 0 0),.v (.slice none 0 0),.v (.slice none 0 0),.v (.int .i64 (-1))]),(10045,.arr 132 (l).length ((l).flatMap Item.row) (some (Fl))),(4,.str [.v (.bool false),.v (.slice none 0 0),.v (.slice none 0 0),.v (.slice none 0 0),.v (.slice none 0 0),.v (.int .i64 0)])]/\p=some Pl) (fun f _ _=>(n0-eO (f 7)).toNat) [(9000,.str c2.cs),(5,.str [.v (.bool di),.s 10045 (([]:List Item)).length,.v (.slice none 0 0),.v (.slice none 0 0),.v (.slice none 0 0),.v (.int .i64 (-1))]),(10045,.arr 132 (([]:List Item)).length ((([]:List Item)).flatMap Item.row) (some ([]))),(4,.str [.v (.bool false),.v (.slice none 0 0),.v (.slice none 0 0),.v (.slice none 0 0),.v (.slice none 0 0),.v (.int .i64 0)])] (some []) ⟨ak rfl (ak rfl (ak rfl (ak rfl (aq _)))),PoSub.refl _,?_⟩ ?_
 ·simp (maxSteps:=9999999) only[tt,seval]
  exact⟨0,[],c2,[],[],rfl,rfl,Nat.zero_le _,(fun x h=>by cases h),i2,Sb.refl _,rfl,rfl⟩
 ·rintro g L p ⟨i,l,c3,Fl,Pl,h7,hl,hi,hal,i3,hsb,rfl,rfl⟩
  simp (maxSteps:=9999999) only[tt,seval] at h7
  simp (maxSteps:=9999999) only[tt,seval,h7,Int.ofNat_lt]
  refine ab (fun hlt=>?_) (fun hge=>?_)
  ·try simp (maxSteps:=9999999) only[seval,Cur.cs]
   refine CallQ.intro (bf c3 i3 5) ?_ ?_ ?_
   ·decide
   ·simp (maxSteps:=9999999) only[tt,seval,Cur.cs]
   rintro r os ⟨x,c4,rfl,rfl,hx,i4⟩ hos
   simp (maxSteps:=9999999) only[tt,seval,h7,Cur.cs,dj]
   refine ab (fun hx0=>?_) (fun hx0=>ab (fun hx1=>?_) (fun hx1=>?_))
   ·try simp (maxSteps:=9999999) only[tt,seval,h7,Cur.cs,dj,ap,Val.row,lc]
    refine sJ ?_
    try rw[dW i aa]
    refine⟨[.ren 45 10045],ae,ae,?_⟩
    simp (maxSteps:=9999999) only[tt,seval,py]
    refine⟨[(9000,.str c4.cs),(5,.str [.v (.bool di),.s 10045 (l++[(Item.mk true ⟨#[]⟩ (.mk 0 0 false ⟨0,0,⟨#[]⟩⟩ ⟨#[]⟩ ⟨#[]⟩ [] []) ⟨#[]⟩)]).length,.v (.slice none 0 0),.v (.slice none 0 0),.v (.slice none 0 0),.v (.int .i64 (-1))]),(10045,.arr 132 (l++[(Item.mk true ⟨#[]⟩ (.mk 0 0 false ⟨0,0,⟨#[]⟩⟩ ⟨#[]⟩ ⟨#[]⟩ [] []) ⟨#[]⟩)]).length ((l++[(Item.mk true ⟨#[]⟩ (.mk 0 0 false ⟨0,0,⟨#[]⟩⟩ ⟨#[]⟩ ⟨#[]⟩ [] []) ⟨#[]⟩)]).flatMap Item.row) (some (Fl))),(4,.str [.v (.bool false),.v (.slice none 0 0),.v (.slice none 0 0),.v (.slice none 0 0),.v (.slice none 0 0),.v (.int .i64 0)])],some (Pl),by simp only[Item.row_mk,ai,lc,List.append_nil,List.flatMap_append,List.flatMap_cons,List.flatMap_nil,aA,List.length_cons,List.length_nil,Cur.cs];exact ak rfl (ak rfl (ak rfl (ak rfl (aq _)))),PoSub.refl _,⟨i+1,l++[(Item.mk true ⟨#[]⟩ (.mk 0 0 false ⟨0,0,⟨#[]⟩⟩ ⟨#[]⟩ ⟨#[]⟩ [] []) ⟨#[]⟩)],c4,Fl,Pl,by simp,by simp [hl],aa,fun x hx=>by
     rcases List.mem_append.1 hx with h|h
     ·exact hal x h
     ·rw[List.mem_singleton.1 h];exact ItOk.star ae,i4,fun x=>by have:=hsb x;(try simp only[fb] at this ⊢);omega,rfl,rfl⟩,aE⟩
   ·try simp (maxSteps:=9999999) only[tt,seval,h7,Cur.cs,dj,ap,Val.row,lc]
    refine dDrawn.intro [53] (.take 0 (.take 2 (.br 1 (.br 3 (.br 4 (.take 5 (.br 6 (.br 7 (.take 8 (.br 9 .done .nobr)) .nobr) .nobr)) .nobr) .nobr) (.br 3 (.br 1 (.br 4 (.take 5 (.br 6 (.br 7 (.take 8 (.br 9 .done .nobr)) .nobr) .nobr)) .nobr) (.br 4 (.take 1 (.take 5 (.br 6 (.br 7 (.take 8 (.br 9 .done .nobr)) .nobr) .nobr))) .nobr)) .nobr)))) ac ?_
    simp (maxSteps:=9999999) only[tt,seval]
    all_goals try simp (maxSteps:=9999999) only[tt,seval,h7,Cur.cs,dj,ap,Val.row,lc]
    all_goals repeat' first|refine xt ?_ ?_|refine mq ?_ ?_
    all_goals
     refine eK [52] ?_
     simp (maxSteps:=9999999) only[tt,seval]
     intro GF52
     refine Call1.intro (dD c4 i4 [⟨#[116]⟩,⟨#[117]⟩] ae) ?_ ?_ ?_
     ·decide
     ·simp (maxSteps:=9999999) only[tt,seval,Cur.cs,srow]
      decide
     rintro r os ⟨c5,⟨s,hs,rfl⟩,rfl,ic5⟩ hos
     simp (maxSteps:=9999999) only[tt,seval,h7,Cur.cs,dj,srow]
    all_goals repeat' first|refine GG ?_ ?_|refine AC ?_ ?_|refine AD ?_ ?_
    all_goals
     refine sJ ?_
    all_goals
     have hs2:cE s=true:=(by decide:∀s∈[⟨#[116]⟩,⟨#[117]⟩],cE s=true) s hs
     try rw[dW i aa]
     refine⟨[.ren 56 10045],ae,ae,?_⟩
     simp (maxSteps:=9999999) only[tt,seval,py]
     refine⟨[(9000,.str c5.cs),(5,.str [.v (.bool di),.s 10045 (l++[(Item.mk true s (.mk 0 0 false ⟨0,0,⟨#[]⟩⟩ ⟨#[]⟩ ⟨#[]⟩ [] []) ⟨#[]⟩)]).length,.v (.slice none 0 0),.v (.slice none 0 0),.v (.slice none 0 0),.v (.int .i64 (-1))]),(10045,.arr 132 (l++[(Item.mk true s (.mk 0 0 false ⟨0,0,⟨#[]⟩⟩ ⟨#[]⟩ ⟨#[]⟩ [] []) ⟨#[]⟩)]).length ((l++[(Item.mk true s (.mk 0 0 false ⟨0,0,⟨#[]⟩⟩ ⟨#[]⟩ ⟨#[]⟩ [] []) ⟨#[]⟩)]).flatMap Item.row) (some (Fl))),(4,.str [.v (.bool false),.v (.slice none 0 0),.v (.slice none 0 0),.v (.slice none 0 0),.v (.slice none 0 0),.v (.int .i64 0)])],some (GF52::Pl),by simp only[Item.row_mk,ai,lc,List.append_nil,List.flatMap_append,List.flatMap_cons,List.flatMap_nil,aA,List.length_cons,List.length_nil,Cur.cs];exact ak rfl (ak rfl (ak rfl (ak rfl (aq _)))),PoSub.refl _,⟨i+1,l++[(Item.mk true s (.mk 0 0 false ⟨0,0,⟨#[]⟩⟩ ⟨#[]⟩ ⟨#[]⟩ [] []) ⟨#[]⟩)],c5,Fl,GF52::Pl,by simp,by simp [hl],aa,fun x hx=>by
      rcases List.mem_append.1 hx with h|h
      ·exact hal x h
      ·rw[List.mem_singleton.1 h];exact ItOk.star hs2,ic5,fun x=>by have:=hsb x;(try simp only[List.flatten_cons,List.count_append] at this ⊢);omega,rfl,rfl⟩,aE⟩
   ·try simp (maxSteps:=9999999) only[tt,seval,h7,Cur.cs,dj,ap,Val.row,lc]
    refine CallQ.intro (hE c4 i4) ?_ ?_ ?_
    ·decide
    ·simp (maxSteps:=9999999) only[tt,seval,Cur.cs]
    rintro r os ⟨c5,⟨⟨k,o,nn,v,q,m,ks,ss⟩,Fk,Fs,rfl,he⟩,rfl,i5⟩ hos
    simp (maxSteps:=9999999) only[tt,seval,Cur.cs,dj,ap,ai]
    refine CallQ.intro (bu c5 i5 2) ?_ ?_ ?_
    ·decide
    ·simp (maxSteps:=9999999) only[tt,seval,Cur.cs]
    rintro r os ⟨c6,⟨b6,rfl⟩,rfl,i6⟩ hos
    simp (maxSteps:=9999999) only[tt,seval,h7,Cur.cs,dj]
    refine ab (fun hb6=>?_) (fun hb6=>?_)
    ·try simp (maxSteps:=9999999) only[tt,seval,h7,Cur.cs,dj,ap,Val.row,lc]
     refine CallQ.intro (gM c6 i6) ?_ ?_ ?_
     ·decide
     ·simp (maxSteps:=9999999) only[tt,seval,Cur.cs]
     rintro r os ⟨c7,⟨s7,rfl,hs7⟩,rfl,i7⟩ hos
     simp (maxSteps:=9999999) only[tt,seval,h7,Cur.cs,dj]
     have hs8:cE s7=true:=by unfold cE;rw[hs7];simp
     refine sJ ?_
     try rw[dW i aa]
     refine⟨[.ren 37 10045],ae,ae,?_⟩
     simp (maxSteps:=9999999) only[tt,seval,py]
     refine⟨[(9000,.str c7.cs),(5,.str [.v (.bool di),.s 10045 (l++[(Item.mk false ⟨#[]⟩ (Expr.mk k o nn v q m ks ss) s7)]).length,.v (.slice none 0 0),.v (.slice none 0 0),.v (.slice none 0 0),.v (.int .i64 (-1))]),(10045,.arr 132 (l++[(Item.mk false ⟨#[]⟩ (Expr.mk k o nn v q m ks ss) s7)]).length ((l++[(Item.mk false ⟨#[]⟩ (Expr.mk k o nn v q m ks ss) s7)]).flatMap Item.row) (some (Fl++(Fk++Fs)))),(4,.str [.v (.bool false),.v (.slice none 0 0),.v (.slice none 0 0),.v (.slice none 0 0),.v (.slice none 0 0),.v (.int .i64 0)])],some (Pl++(Fk++Fs)),by simp only[Item.row_mk,ai,lc,List.append_nil,List.flatMap_append,List.flatMap_cons,List.flatMap_nil,aA,List.length_cons,List.length_nil,Cur.cs];exact ak rfl (ak rfl (ak rfl (ak rfl (aq _)))),PoSub.refl _,⟨i+1,l++[(Item.mk false ⟨#[]⟩ (Expr.mk k o nn v q m ks ss) s7)],c7,Fl++(Fk++Fs),Pl++(Fk++Fs),by simp,by simp [hl],aa,fun x hx=>by
      rcases List.mem_append.1 hx with h|h
      ·exact hal x h
      ·rw[List.mem_singleton.1 h];exact ItOk.ex he hs8,i7,fun x=>by have:=hsb x;(try simp only[List.flatten_append,List.count_append] at this ⊢);omega,rfl,rfl⟩,aE⟩
    ·try simp (maxSteps:=9999999) only[tt,seval,h7,Cur.cs,dj,ap,Val.row,lc]
     refine sJ ?_
     try rw[dW i aa]
     refine⟨[.ren 37 10045],ae,ae,?_⟩
     simp (maxSteps:=9999999) only[tt,seval,py]
     refine⟨[(9000,.str c6.cs),(5,.str [.v (.bool di),.s 10045 (l++[(Item.mk false ⟨#[]⟩ (Expr.mk k o nn v q m ks ss) ⟨#[]⟩)]).length,.v (.slice none 0 0),.v (.slice none 0 0),.v (.slice none 0 0),.v (.int .i64 (-1))]),(10045,.arr 132 (l++[(Item.mk false ⟨#[]⟩ (Expr.mk k o nn v q m ks ss) ⟨#[]⟩)]).length ((l++[(Item.mk false ⟨#[]⟩ (Expr.mk k o nn v q m ks ss) ⟨#[]⟩)]).flatMap Item.row) (some (Fl++(Fk++Fs)))),(4,.str [.v (.bool false),.v (.slice none 0 0),.v (.slice none 0 0),.v (.slice none 0 0),.v (.slice none 0 0),.v (.int .i64 0)])],some (Pl++(Fk++Fs)),by simp only[Item.row_mk,ai,lc,List.append_nil,List.flatMap_append,List.flatMap_cons,List.flatMap_nil,aA,List.length_cons,List.length_nil,Cur.cs];exact ak rfl (ak rfl (ak rfl (ak rfl (aq _)))),PoSub.refl _,⟨i+1,l++[(Item.mk false ⟨#[]⟩ (Expr.mk k o nn v q m ks ss) ⟨#[]⟩)],c6,Fl++(Fk++Fs),Pl++(Fk++Fs),by simp,by simp [hl],aa,fun x hx=>by
      rcases List.mem_append.1 hx with h|h
      ·exact hal x h
      ·rw[List.mem_singleton.1 h];exact ItOk.ex he ae,i6,fun x=>by have:=hsb x;(try simp only[List.flatten_append,List.count_append] at this ⊢);omega,rfl,rfl⟩,aE⟩
  ·obtain⟨it,hite⟩:∃it,it=l:=⟨_,rfl⟩
   have hit1:1<=it.length:=by rw[hite];omega
   have hit2:it.length<=2:=by rw[hite];omega
   have bH:∀x,x∈it->ItOk d x:=by rw[hite];exact hal
   rw[<-hite]
   clear hal hite
   simp (maxSteps:=9999999) only[seval,Cur.cs]
   refine CallQ.intro (bf c3 i3 2) ?_ ?_ ?_
   ·decide
   ·simp (maxSteps:=9999999) only[tt,seval,Cur.cs]
   rintro r os ⟨y,c9,rfl,rfl,hy,i9⟩ hos
   simp (maxSteps:=9999999) only[tt,seval,Cur.cs]
   have hy2:=hy.2 aa
   obtain⟨n1,hn0⟩:∃n1:Nat,(1:Int)+y=n1:=⟨((1:Int)+y).toNat,aa⟩
   rw[aI (n:=(1:Int)+y) aa aa,hn0]
   have hn11:1<=n1:=by omega
   have hn12:n1<=2:=by omega
   clear hn0 hy hy2
   refine dLoop.gh [.virtC 5 2 10090 134] ⟨ae,?_⟩
   simp (maxSteps:=9999999) only[tt,seval]
   refine dLoop0.introR (fun f L p=>∃(j:Nat) (l:List Source) (c':Cur) (F2 Pl2:List (List Nat)),f 9=vi j/\l.length=j/\j<=n1/\(∀(x:Nat) (hx:x<l.length),SrOk d x l[x])/\0<=c'.i/\Sb (Fl++F2).flatten Pl2.flatten/\L=[(9000,.str c'.cs),(5,.str [.v (.bool di),.s 10045 it.length,.s 10090 (l).length,.v (.slice none 0 0),.v (.slice none 0 0),.v (.int .i64 (-1))]),(10045,.arr 132 it.length (it.flatMap Item.row) (some Fl)),(10090,.arr 134 (l).length ((l).flatMap Source.row) (some (F2))),(4,.str [.v (.bool false),.v (.slice none 0 0),.v (.slice none 0 0),.v (.slice none 0 0),.v (.slice none 0 0),.v (.int .i64 0)])]/\p=some Pl2) (fun f _ _=>(n1-eO (f 9)).toNat) [(9000,.str c9.cs),(5,.str [.v (.bool di),.s 10045 it.length,.s 10090 (([]:List Source)).length,.v (.slice none 0 0),.v (.slice none 0 0),.v (.int .i64 (-1))]),(10045,.arr 132 it.length (it.flatMap Item.row) (some Fl)),(10090,.arr 134 (([]:List Source)).length ((([]:List Source)).flatMap Source.row) (some ([]))),(4,.str [.v (.bool false),.v (.slice none 0 0),.v (.slice none 0 0),.v (.slice none 0 0),.v (.slice none 0 0),.v (.int .i64 0)])] (some Pl) ⟨ak rfl (ak rfl (ak rfl (ak rfl (ak rfl (aq _))))),PoSub.refl _,?_⟩ ?_
   ·simp (maxSteps:=9999999) only[tt,seval]
    exact⟨0,[],c9,[],Pl,rfl,rfl,Nat.zero_le _,(fun x h=>absurd h (Nat.not_lt_zero _)),i9,by rw[List.append_nil];exact hsb,rfl,rfl⟩
   ·rintro g9 L p ⟨j,l,c3,F2,Pl2,h9,hl,hi2,hal,i3,hsb2,rfl,rfl⟩
    simp (maxSteps:=9999999) only[tt,seval] at h9
    simp (maxSteps:=9999999) only[tt,seval,h9,Int.ofNat_lt]
    refine ab (fun hlt=>?_) (fun hge=>?_)
    ·try simp (maxSteps:=9999999) only[tt,seval,Cur.cs]
     refine eK [67] ?_
     simp (maxSteps:=9999999) only[tt,seval]
     intro GF67
     refine Call1.intro (dD c3 i3 [⟨#[116]⟩,⟨#[117]⟩,⟨#[118]⟩] ae) ?_ ?_ ?_
     ·decide
     ·simp (maxSteps:=9999999) only[tt,seval,Cur.cs,srow]
     rintro r os ⟨c4,⟨tb,htb0,rfl⟩,rfl,ic4⟩ hos
     simp (maxSteps:=9999999) only[tt,seval,Cur.cs,dj,srow]
     have htb:bD tb=true:=(by decide:∀s∈[⟨#[116]⟩,⟨#[117]⟩,⟨#[118]⟩],bD s=true) tb htb0
     refine CallQ.intro (bu c4 ic4 3) ?_ ?_ ?_
     ·decide
     ·simp (maxSteps:=9999999) only[tt,seval,Cur.cs]
     rintro r os ⟨c5,⟨b5,rfl⟩,rfl,i5⟩ hos
     simp (maxSteps:=9999999) only[tt,seval,h9,Cur.cs]
     refine ab (fun hb=>?_) (fun hb=>?_)
     case' refine_1=>
      refine CallQ.intro (gM c5 i5) ?_ ?_ ?_
      ·decide
      ·simp (maxSteps:=9999999) only[tt,seval,Cur.cs]
      rintro r os ⟨c6,⟨s6,rfl,hs6⟩,rfl,i6⟩ hos
      simp (maxSteps:=9999999) only[tt,seval,h9,Cur.cs]
      obtain⟨sa,hsa0⟩:∃sa:ByteArray,sa=s6:=⟨_,rfl⟩
      have hsa2:cE sa=true:=by unfold cE;rw[hsa0,hs6];simp
     case' refine_2=>
      obtain⟨sa,hsa0⟩:∃sa:ByteArray,sa=⟨#[]⟩:=⟨_,rfl⟩
      have hsa2:cE sa=true:=by rw[hsa0];decide
      generalize hc0:c5=c6 at *
      have i6:=i5
     all_goals
      by_cases hj:(0:Int)<(j:Int)
      case' pos=>
       simp (maxSteps:=9999999) only[tt,seval,aF hj]
       refine CallQ.intro (bu c6 i6 2) ?_ ?_ ?_
       ·decide
       ·simp (maxSteps:=9999999) only[tt,seval,Cur.cs]
       rintro r os ⟨c8,⟨b8,rfl⟩,rfl,i8⟩ hos
       simp (maxSteps:=9999999) only[tt,seval,h9,Cur.cs,dj]
       refine ab (fun hb=>?_) (fun hb=>?_)
       case' refine_1=>
        refine CallQ.intro (hE c8 i8) ?_ ?_ ?_
        ·decide
        ·simp (maxSteps:=9999999) only[tt,seval,Cur.cs]
        rintro r os ⟨c9,⟨⟨k,o,nn,v,q,m,ks,ss⟩,Fk,Fs,rfl,he⟩,rfl,i9⟩ hos
        simp (maxSteps:=9999999) only[tt,seval,h9,Cur.cs,dj,ap,ai]
        obtain⟨on,hon⟩:∃on:List Expr,on=[(Expr.mk k o nn v q m ks ss)]:=⟨_,rfl⟩
        have h8:on.length<=1/\((j:Nat)=0->on=[])/\∀e,e∈on->DrE d e:=by rw[hon];exact⟨by simp,fun h0=>absurd h0 aa,fun e h=>by rw[List.mem_singleton.1 h];exact he⟩
        intro Gx
        obtain⟨Fon,hFo⟩:∃F:List (List Nat),F=Gx::(Fk++Fs):=⟨_,rfl⟩
        obtain⟨P2,hP2⟩:∃P:List (List Nat),P=Gx::(GF67::(Pl2++(Fk++Fs))):=⟨_,rfl⟩
        have hsc:Sb (Fl++(F2++Fon)).flatten P2.flatten:=fun x=>by have:=hsb2 x;simp only[hFo,hP2,List.flatten_append,List.flatten_cons,List.count_append] at this ⊢;omega
       case' refine_2=>
        obtain⟨on,hon⟩:∃on:List Expr,on=[]:=⟨_,rfl⟩
        have h8:on.length<=1/\((j:Nat)=0->on=[])/\∀e,e∈on->DrE d e:=by rw[hon];exact⟨by simp,fun _=>rfl,fun e h=>by cases h⟩
        obtain⟨Fon,hFo⟩:∃F:List (List Nat),F=[]:=⟨_,rfl⟩
        obtain⟨P2,hP2⟩:∃P:List (List Nat),P=GF67::Pl2:=⟨_,rfl⟩
        have hsc:Sb (Fl++(F2++Fon)).flatten P2.flatten:=fun x=>by have:=hsb2 x;simp only[hFo,hP2,List.flatten_append,List.flatten_cons,List.count_append,List.append_nil] at this ⊢;omega
        generalize hc0:c8=c9 at *
        have i9:=i8
      case' neg=>
       simp (maxSteps:=9999999) only[tt,seval,aG hj,h9,dj]
       obtain⟨on,hon⟩:∃on:List Expr,on=[]:=⟨_,rfl⟩
       have h8:on.length<=1/\((j:Nat)=0->on=[])/\∀e,e∈on->DrE d e:=by rw[hon];exact⟨by simp,fun _=>rfl,fun e h=>by cases h⟩
       obtain⟨Fon,hFo⟩:∃F:List (List Nat),F=[]:=⟨_,rfl⟩
       obtain⟨P2,hP2⟩:∃P:List (List Nat),P=GF67::Pl2:=⟨_,rfl⟩
       have hsc:Sb (Fl++(F2++Fon)).flatten P2.flatten:=fun x=>by have:=hsb2 x;simp only[hFo,hP2,List.flatten_append,List.flatten_cons,List.count_append,List.append_nil] at this ⊢;omega
       generalize hc0:c6=c9 at *
       have i9:=i6
      all_goals
       refine sJ ?_
       try rw[aI (n:=(j:Int)+1) aa aa]
       refine⟨[.ren 90 10090],ae,ae,?_⟩
       simp (maxSteps:=9999999) only[tt,seval,py]
       refine⟨[(9000,.str c9.cs),(5,.str [.v (.bool di),.s 10045 it.length,.s 10090 (l++[(Source.mk tb sa on)]).length,.v (.slice none 0 0),.v (.slice none 0 0),.v (.int .i64 (-1))]),(10045,.arr 132 it.length (it.flatMap Item.row) (some Fl)),(10090,.arr 134 (l++[(Source.mk tb sa on)]).length ((l++[(Source.mk tb sa on)]).flatMap Source.row) (some (F2++Fon))),(4,.str [.v (.bool false),.v (.slice none 0 0),.v (.slice none 0 0),.v (.slice none 0 0),.v (.slice none 0 0),.v (.int .i64 0)])],some P2,by simp only[Source.row_mk,ai,List.append_nil,List.flatMap_append,List.flatMap_cons,List.flatMap_nil,aA,List.length_cons,List.length_nil,Cur.cs,hon,hsa0,hFo];exact ak rfl (ak rfl (ak rfl (ak rfl (ak rfl (aq _))))),(fun qs h=>by injection h with h;subst h;exact⟨_,rfl,fun x=>by (try simp only[hP2,List.flatten_append,List.flatten_cons,List.count_append]);omega⟩),⟨j+1,l++[(Source.mk tb sa on)],c9,F2++Fon,P2,by simp,by simp [hl],aa,fun x hx=>by
        rcases Nat.lt_or_ge x l.length with h|h
        ·rw[List.getElem_append_left h];exact hal x h
        ·have e:x=l.length:=by simp at hx;omega
         subst e
         rw[List.getElem_append_right (Nat.le_refl _)];simp only[Nat.sub_self,List.getElem_cons_zero];exact SrOk.mk' htb hsa2 h8.1 (fun h0=>h8.2.1 aa) h8.2.2,i9,hsc,rfl,rfl⟩,aE⟩
    ·have hfr1:1<=l.length:=by omega
     have hfr2:l.length<=2:=by omega
     have hfr:=hal
     obtain⟨fr,hfe⟩:∃fr,fr=l:=⟨_,rfl⟩
     rw[<-hfe] at hfr1 hfr2 ⊢
     subst hfe
     simp (maxSteps:=9999999) only[seval,Cur.cs]
     refine CallQ.intro (bu c3 i3 2) ?_ ?_ ?_
     ·decide
     ·simp (maxSteps:=9999999) only[tt,seval,Cur.cs]
     rintro r os ⟨c4,⟨b4,rfl⟩,rfl,i4⟩ hos
     simp (maxSteps:=9999999) only[tt,seval,Cur.cs]
     refine ab (fun hb=>?_) (fun hb=>?_)
     case' refine_1=>
      refine CallQ.intro (hE c4 i4) ?_ ?_ ?_
      ·decide
      ·simp (maxSteps:=9999999) only[tt,seval,Cur.cs]
      rintro r os ⟨c5,⟨⟨k,o,nn,v,q,m,ks,ss⟩,Fkw,Fsw,rfl,he⟩,rfl,i5⟩ hos
      simp (maxSteps:=9999999) only[tt,seval,Cur.cs,dj,ap,ai]
      obtain⟨wh,hwh⟩:∃wh:List Expr,wh=[(Expr.mk k o nn v q m ks ss)]:=⟨_,rfl⟩
      have hw1:wh.length<=1:=by rw[hwh];simp
      have hw:∀e,e∈wh->DrE d e:=by rw[hwh];exact fun e h=>by rw[List.mem_singleton.1 h];exact he
     case' refine_2=>
      obtain⟨wh,hwh⟩:∃wh:List Expr,wh=[]:=⟨_,rfl⟩
      have hw1:wh.length<=1:=by rw[hwh];simp
      have hw:∀e,e∈wh->DrE d e:=by rw[hwh];exact fun e h=>by cases h
      generalize hc0:c4=c5 at *
      have i5:=i4
     all_goals
      refine CallQ.intro (bu c5 i5 3) ?_ ?_ ?_
      ·decide
      ·simp (maxSteps:=9999999) only[tt,seval,Cur.cs]
      rintro r os ⟨cc,⟨bc9,rfl⟩,rfl,ic9⟩ hos
      simp (maxSteps:=9999999) only[tt,seval,Cur.cs]
      refine ab (fun hb=>?_) (fun hb=>?_)
      case' refine_1=>
       refine dDrawn.intro [105,107] (.take 0 (.take 2 (.take 3 (.take 5 (.br 1 (.br 4 (.br 6 (.take 7 (.br 8 (.br 9 (.take 10 (.br 11 .done .nobr)) .nobr) .nobr)) .nobr) .nobr) (.br 4 (.br 1 (.br 6 (.take 7 (.br 8 (.br 9 (.take 10 (.br 11 .done .nobr)) .nobr) .nobr)) .nobr) (.br 6 (.take 1 (.take 7 (.br 8 (.br 9 (.take 10 (.br 11 .done .nobr)) .nobr) .nobr))) .nobr)) .nobr)))))) ac ?_
       simp (maxSteps:=9999999) only[tt,seval]
       all_goals try simp (maxSteps:=9999999) only[tt,seval,Cur.cs,dj,ap,Val.row,lc]
       all_goals repeat' first|refine xt ?_ ?_|refine mq ?_ ?_
       all_goals
        refine CallQ.intro (hE cc ic9) ?_ ?_ ?_
        ·decide
        ·simp (maxSteps:=9999999) only[tt,seval,Cur.cs]
         decide
        rintro r os ⟨cd,⟨⟨k2,o2,nn2,v2,q2,m2,ks2,ss2⟩,Fko,Fso,rfl,he2⟩,rfl,id9⟩ hos
        simp (maxSteps:=9999999) only[tt,seval,Cur.cs,ap,ai]
       all_goals repeat' first|refine xt ?_ ?_|refine mq ?_ ?_
       all_goals
        refine CallQ.intro (bu cd id9 2) ?_ ?_ ?_
        ·decide
        ·simp (maxSteps:=9999999) only[tt,seval,Cur.cs]
         decide
        rintro r os ⟨ce,⟨de,rfl⟩,rfl,ie⟩ hos
        simp (maxSteps:=9999999) only[tt,seval,Cur.cs,dj]
       all_goals repeat' first|refine GG ?_ ?_|refine AC ?_ ?_|refine AD ?_ ?_
       all_goals
        refine sJ ?_
       all_goals
        obtain⟨od,hod⟩:∃od:List SortKey,od=[.mk (Expr.mk k2 o2 nn2 v2 q2 m2 ks2 ss2) de]:=⟨_,rfl⟩
        have ho1:od.length<=1:=by rw[hod];simp
        have ho:∀k,k∈od->DrE d k.e:=by rw[hod];exact fun e h=>by rw[List.mem_singleton.1 h];exact he2
      case' refine_2=>
       obtain⟨od,hod⟩:∃od:List SortKey,od=[]:=⟨_,rfl⟩
       have ho1:od.length<=1:=by rw[hod];simp
       have ho:∀k,k∈od->DrE d k.e:=by rw[hod];exact fun e h=>by cases h
       generalize hc0:cc=ce at *
       have ie:=ic9
      all_goals
       refine CallQ.intro (bu ce ie 4) ?_ ?_ ?_
       ·decide
       ·simp (maxSteps:=9999999) only[tt,seval,Cur.cs]
       rintro r os ⟨ca,⟨ba,rfl⟩,rfl,ia⟩ hos
       simp (maxSteps:=9999999) only[tt,seval,Cur.cs]
       refine ab (fun hb=>?_) (fun hb=>?_)
       case' refine_1=>
        refine eK [115] ?_
        simp (maxSteps:=9999999) only[tt,seval]
        intro GF115
        refine Call1.intro (kx ca ia [0,1,2,9223372036854775807] ae) ?_ ?_ ?_
        ·decide
        ·simp (maxSteps:=9999999) only[tt,seval,Cur.cs,irow]
        rintro r os ⟨cb,⟨l7,hl7,rfl⟩,rfl,ib⟩ hos
        simp (maxSteps:=9999999) only[tt,seval,Cur.cs,irow]
        obtain⟨lm,hlm⟩:∃lm:Int,lm=l7:=⟨_,rfl⟩
        have hl2 : -1<=lm/\lm<=9223372036854775807:=hlm▸(by decide:∀s∈([0,1,2,9223372036854775807]:List Int),-1<=s/\s<=9223372036854775807) l7 hl7
       case' refine_2=>
        obtain⟨lm,hlm⟩:∃lm:Int,lm = -1:=⟨_,rfl⟩
        have hl2 : -1<=lm/\lm<=9223372036854775807:=by rw[hlm];decide
        generalize hc0:ca=cb at *
        have ib:=ia
       all_goals first
        | (intro GI GS GW GO
           refine⟨.ag (ap (Query.mk di it fr wh od lm).row [GI::Fl,GS::F2,GW::(Fkw++Fsw),GO::(Fko++Fso)]),[cb.cs],⟨cb,⟨_,GI::Fl,GS::F2,GW::(Fkw++Fsw),GO::(Fko++Fso),rfl,DrQ.mk' hit1 hit2 bH hfr1 hfr2 hfr hw1 hw ho1 ho hl2.1 hl2.2⟩,rfl,ib⟩,au ?_⟩
           simp (maxSteps:=9999999) only[tt,seval,hwh,hod,hlm,bj,SortKey.row_mk,ai,ap,Cur.cs,ap]
           first|done|exact ee fun x=>by have:=hsb2 x;simp only[List.flatten_append,List.flatten_cons,List.count_append] at this ⊢;omega)
        | (intro GI GS GW
           refine⟨.ag (ap (Query.mk di it fr wh od lm).row [GI::Fl,GS::F2,GW::(Fkw++Fsw),[]]),[cb.cs],⟨cb,⟨_,GI::Fl,GS::F2,GW::(Fkw++Fsw),[],rfl,DrQ.mk' hit1 hit2 bH hfr1 hfr2 hfr hw1 hw ho1 ho hl2.1 hl2.2⟩,rfl,ib⟩,au ?_⟩
           simp (maxSteps:=9999999) only[tt,seval,hwh,hod,hlm,bj,ai,ap,Cur.cs,ap]
           first|done|exact ee fun x=>by have:=hsb2 x;simp only[List.flatten_append,List.flatten_cons,List.count_append] at this ⊢;omega)
        | (intro GI GS GO
           refine⟨.ag (ap (Query.mk di it fr wh od lm).row [GI::Fl,GS::F2,[],GO::(Fko++Fso)]),[cb.cs],⟨cb,⟨_,GI::Fl,GS::F2,[],GO::(Fko++Fso),rfl,DrQ.mk' hit1 hit2 bH hfr1 hfr2 hfr hw1 hw ho1 ho hl2.1 hl2.2⟩,rfl,ib⟩,au ?_⟩
           simp (maxSteps:=9999999) only[tt,seval,hwh,hod,hlm,bj,SortKey.row_mk,ai,ap,Cur.cs,ap]
           first|done|exact ee fun x=>by have:=hsb2 x;simp only[List.flatten_append,List.flatten_cons,List.count_append] at this ⊢;omega)
        | (intro GI GS
           refine⟨.ag (ap (Query.mk di it fr wh od lm).row [GI::Fl,GS::F2,[],[]]),[cb.cs],⟨cb,⟨_,GI::Fl,GS::F2,[],[],rfl,DrQ.mk' hit1 hit2 bH hfr1 hfr2 hfr hw1 hw ho1 ho hl2.1 hl2.2⟩,rfl,ib⟩,au ?_⟩
           simp (maxSteps:=9999999) only[tt,seval,hwh,hod,hlm,bj,ap,Cur.cs,ap]
           first|done|exact ee fun x=>by have:=hsb2 x;simp only[List.flatten_append,List.flatten_cons,List.count_append] at this ⊢;omega)
end
end Go.Proofs.YtoegnikpokgbfaaGreatDoor
set_option maxRecDepth 8000
namespace Go.Proofs.YtoegnikpokgbfaaGreatDoor
open Go Go.Dv
open Go.Vc (D cF cG cv aX)
section
variable [CodeOut]
theorem zh (d:Nat):d<=50->H6 d/\Ft d:=by
 induction d using Nat.strongRecOn with
 |_ d ih=>
  intro h
  have hx:H6 d:=uw d h (fun d2 e n m hm hn c h0=>by
   subst e hm
   exact uv d2 aa (ih d2 aa aa).1 n hn c h0) fun d3 e=>(ih d3 aa aa).2
  exact⟨hx,su d h hx⟩
end
end Go.Proofs.YtoegnikpokgbfaaGreatDoor
set_option maxRecDepth 8000
namespace Go.Proofs.YtoegnikpokgbfaaGreatDoor
open Go Go.Dv Go.Cv
open Go.Vc (D cF cG cv aX)
section
variable [CodeOut]
def HS (d:Nat) (r:S):Prop:=∃e:Expr,r = .ag (ar e.row)/\DrE d e
set_option maxHeartbeats 4000000 in
theorem D2 (d:Nat) (c:Cur) (h0:0<=c.i):Cl Tryz.prog 107 [.c (.p 9000 0)] [c.cs] (pW (HS d)):=by
 refine am ah false Tryz.func107 rfl ac ?_
 simp only[Tryz.f107,tt,seval]
 refine eK [5] ?_
 simp (maxSteps:=9999999) only[tt,seval,Cur.cs]
 refine Call1.intro (dD c h0 [⟨#[97]⟩,⟨#[98]⟩,⟨#[99]⟩,⟨#[105,100]⟩,⟨#[110,97,109,101]⟩] ae) ?_ ?_ ?_
 ·decide
 ·simp (maxSteps:=9999999) only[tt,seval,Cur.cs,srow]
 rintro r os ⟨c2,⟨s,hs,rfl⟩,rfl,ic2⟩ hos
 simp (maxSteps:=9999999) only[tt,seval,Cur.cs,srow]
 have hs2:bD s=true:=(by decide:∀s∈[⟨#[97]⟩,⟨#[98]⟩,⟨#[99]⟩,⟨#[105,100]⟩,⟨#[110,97,109,101]⟩],bD s=true) s hs
 refine CallQ.intro (bu c2 ic2 3) ?_ ?_ ?_
 ·decide
 ·simp (maxSteps:=9999999) only[tt,seval,Cur.cs,dj]
 rintro r os ⟨c3,⟨b,rfl⟩,rfl,i3⟩ hos
 simp (maxSteps:=9999999) only[tt,seval,Cur.cs,dj]
 refine ab (fun hb=>?_) (fun hb=>?_)
 ·skip
  refine eK [11] ?_
  simp (maxSteps:=9999999) only[tt,seval]
  refine Call1.intro (dD c3 i3 [⟨#[116]⟩,⟨#[117]⟩,⟨#[118]⟩] ae) ?_ ?_ ?_
  ·decide
  ·simp (maxSteps:=9999999) only[tt,seval,Cur.cs,srow]
  rintro r os ⟨c4,⟨q,hq,rfl⟩,rfl,ic4⟩ hos
  simp (maxSteps:=9999999) only[tt,seval,Cur.cs,srow]
  have hq2:cE q=true:=(by decide:∀s∈[⟨#[116]⟩,⟨#[117]⟩,⟨#[118]⟩],cE s=true) q hq
  refine CallQ.intro (bu c4 ic4 12) ?_ ?_ ?_
  ·decide
  ·simp (maxSteps:=9999999) only[tt,seval,Cur.cs]
  rintro r os ⟨c7,⟨b7,rfl⟩,rfl,i7⟩ hos
  simp (maxSteps:=9999999) only[tt,seval,Cur.cs]
  refine ab (fun hb7=>?_) (fun hb7=>?_)
  ·skip
   refine CallQ.intro (gM c7 i7) ?_ ?_ ?_
   ·decide
   ·simp (maxSteps:=9999999) only[tt,seval,Cur.cs]
   rintro r os ⟨c8,⟨s8,rfl,hs8⟩,rfl,i8⟩ hos
   simp (maxSteps:=9999999) only[tt,seval,Cur.cs]
   refine⟨.ag (ar (Expr.mk 2 0 false ⟨0,0,⟨#[]⟩⟩ q s8 [] []).row),[c8.cs],⟨c8,⟨_,rfl,DrE.col (hs8) (hq2) d⟩,rfl,i8⟩,au ?_⟩
   simp (maxSteps:=9999999) only[tt,seval,ai,Cur.cs]
  ·skip
   refine⟨.ag (ar (Expr.mk 2 0 false ⟨0,0,⟨#[]⟩⟩ q s [] []).row),[c7.cs],⟨c7,⟨_,rfl,DrE.col (hs2) (hq2) d⟩,rfl,i7⟩,au ?_⟩
   simp (maxSteps:=9999999) only[tt,seval,ai,Cur.cs]
 ·skip
  refine CallQ.intro (bu c3 i3 12) ?_ ?_ ?_
  ·decide
  ·simp (maxSteps:=9999999) only[tt,seval,Cur.cs]
  rintro r os ⟨c7,⟨b7,rfl⟩,rfl,i7⟩ hos
  simp (maxSteps:=9999999) only[tt,seval,Cur.cs]
  refine ab (fun hb7=>?_) (fun hb7=>?_)
  ·skip
   refine CallQ.intro (gM c7 i7) ?_ ?_ ?_
   ·decide
   ·simp (maxSteps:=9999999) only[tt,seval,Cur.cs]
   rintro r os ⟨c8,⟨s8,rfl,hs8⟩,rfl,i8⟩ hos
   simp (maxSteps:=9999999) only[tt,seval,Cur.cs]
   refine⟨.ag (ar (Expr.mk 2 0 false ⟨0,0,⟨#[]⟩⟩ ⟨#[]⟩ s8 [] []).row),[c8.cs],⟨c8,⟨_,rfl,DrE.col (hs8) (ae) d⟩,rfl,i8⟩,au ?_⟩
   simp (maxSteps:=9999999) only[tt,seval,ai,Cur.cs]
  ·skip
   refine⟨.ag (ar (Expr.mk 2 0 false ⟨0,0,⟨#[]⟩⟩ ⟨#[]⟩ s [] []).row),[c7.cs],⟨c7,⟨_,rfl,DrE.col (hs2) (ae) d⟩,rfl,i7⟩,au ?_⟩
   simp (maxSteps:=9999999) only[tt,seval,ai,Cur.cs]
theorem H7:ByteArray.empty=⟨#[]⟩:=rfl
theorem DJ {e:Expr} {i:Nat} (hg:Rg e) (hz:szExpr e<=1000+2*i):Rg (nB 16 e)/\szExpr (nB 16 e)<=1000+2*(i+1):=by
 refine⟨.mk ⟨by show _<=(0:Int);omega,by show (0:Int)<=_;omega⟩ (fun x h=>by rw[List.mem_singleton.1 h];exact hg) (fun _ h=>by cases h) (fun _ h=>by cases h),?_⟩
 rw[nB,aZ,aL,bI]
 have e0:({ data:=#[] }:ByteArray).size=0:=rfl
 simp [jt,zVal,z0]
 omega
def Jw (r:S):Prop:=∃e:Expr,r = .ag (ar e.row)/\Rg e/\szExpr e<=1048576
set_option maxHeartbeats 4000000 in
theorem Bm (c:Cur) (h0:0<=c.i):Cl Tryz.prog 72 [.c (.p 9000 0)] [c.cs] (pW Jw):=by
 refine am ah false Tryz.func72 rfl ac ?_
 simp only[Tryz.f72,tt,seval]
 refine CallQ.intro (D2 0 c h0) ?_ ?_ ?_
 ·decide
 ·simp (maxSteps:=9999999) only[tt,seval,Cur.cs,dj]
 rintro r os ⟨c1,⟨⟨k1,p1,n1,v1,q1,m1,ks1,ss1⟩,rfl,he⟩,rfl,i1⟩ hos
 simp (maxSteps:=9999999) only[tt,seval,Cur.cs,dj,ai]
 refine CallQ.intro (bf c1 i1 3) ?_ ?_ ?_
 ·decide
 ·simp (maxSteps:=9999999) only[tt,seval,Cur.cs]
 rintro r os ⟨y,c2,rfl,rfl,hy,i2⟩ hos
 simp (maxSteps:=9999999) only[tt,seval,Cur.cs]
 have hy2:=hy.2 aa
 obtain⟨n,hn⟩:∃n:Nat,(22:Int)+y=n:=⟨((22:Int)+y).toNat,aa⟩
 rw[aI (n:=(22:Int)+y) aa aa,hn]
 have hn2:n<=24:=by omega
 clear hn hy hy2
 have hsz0:=he.sz
 have hrg0:=he.rg
 clear he
 simp only[dN] at hsz0
 refine dLoop.gh [] ?_
 refine dLoop0.introR (fun f Lo p=>∃(i:Nat) (e:Expr),f 5=vi i/\i<=n/\(Rg e/\szExpr e<=1000+2*i)/\(Lo=[(9000,.str c2.cs),(3,.str (ar (e).row)),(2,.str [.v (.int .i64 0),.v (.int .i64 0),.v (.bool false),.v (.int .i64 0),.v (.int .i64 0),.v (.string ByteArray.empty),.v (.string ByteArray.empty),.v (.string ByteArray.empty),.v (.slice none 0 0),.v (.slice none 0 0)])]∨∃a,e=nB 16 a/\Lo=[(9000,.str c2.cs),(3,.str [.v (.int .i64 3),.v (.int .i64 16),.v (.bool false),.v (.int .i64 0),.v (.int .i64 0),.v (.string ByteArray.empty),.v (.string ByteArray.empty),.v (.string ByteArray.empty),.s 10017 1,.v (.slice none 0 0)]),(10017,.arr 29 1 ([a].flatMap Expr.row) none),(2,.str [.v (.int .i64 0),.v (.int .i64 0),.v (.bool false),.v (.int .i64 0),.v (.int .i64 0),.v (.string ByteArray.empty),.v (.string ByteArray.empty),.v (.string ByteArray.empty),.v (.slice none 0 0),.v (.slice none 0 0)])])/\p=none) (fun f _ _=>(n-eO (f 5)).toNat) [(9000,.str c2.cs),(3,.str (ar ((Expr.mk k1 p1 n1 v1 q1 m1 ks1 ss1)).row)),(2,.str [.v (.int .i64 0),.v (.int .i64 0),.v (.bool false),.v (.int .i64 0),.v (.int .i64 0),.v (.string ByteArray.empty),.v (.string ByteArray.empty),.v (.string ByteArray.empty),.v (.slice none 0 0),.v (.slice none 0 0)])] none ⟨by rw[ai];simp only[Cur.cs];exact ak rfl (ak rfl (ak rfl (aq _))),av _,?_⟩ ?_
 ·simp (maxSteps:=9999999) only[tt,seval]
  exact⟨0,(Expr.mk k1 p1 n1 v1 q1 m1 ks1 ss1),rfl,Nat.zero_le _,⟨hrg0,aa⟩,.inl rfl⟩
 ·rintro g' Lo p ⟨i,e,h5,hi,⟨hg,hz⟩,rfl|⟨a,rfl,rfl⟩,rfl⟩
  ·obtain⟨k1,p1,n1,v1,q1,m1,ks1,ss1⟩:=e
   rw[ai]
   simp (maxSteps:=9999999) only[tt,seval] at h5
   simp (maxSteps:=9999999) only[tt,seval,h5,Cur.cs,dj,Int.ofNat_lt]
   refine ab (fun hlt=>?_) (fun hge=>?_)
   ·try simp (maxSteps:=9999999) only[tt,seval,h5,Cur.cs,dj,Tok.row,Val.row]
    rw[dW i aa]
    refine⟨[.ren 17 10017],ae,ae,?_⟩
    simp (maxSteps:=9999999) only[tt,seval,py]
    refine⟨[(9000,.str c2.cs),(3,.str [.v (.int .i64 3),.v (.int .i64 16),.v (.bool false),.v (.int .i64 0),.v (.int .i64 0),.v (.string ByteArray.empty),.v (.string ByteArray.empty),.v (.string ByteArray.empty),.s 10017 1,.v (.slice none 0 0)]),(10017,.arr 29 1 ([(Expr.mk k1 p1 n1 v1 q1 m1 ks1 ss1)].flatMap Expr.row) none),(2,.str [.v (.int .i64 0),.v (.int .i64 0),.v (.bool false),.v (.int .i64 0),.v (.int .i64 0),.v (.string ByteArray.empty),.v (.string ByteArray.empty),.v (.string ByteArray.empty),.v (.slice none 0 0),.v (.slice none 0 0)])],none,by simp only[ai,H7,List.flatMap_nil,List.flatMap_cons,List.append_nil,Cur.cs];exact ak rfl (ak rfl (ak rfl (ak rfl (aq _)))),av _,⟨i+1,nB 16 (Expr.mk k1 p1 n1 v1 q1 m1 ks1 ss1),by simp,aa,DJ hg hz,.inr ⟨(Expr.mk k1 p1 n1 v1 q1 m1 ks1 ss1),rfl,rfl⟩,rfl⟩,aE⟩
   ·try simp (maxSteps:=9999999) only[tt,seval,h5,Cur.cs,dj,Tok.row,Val.row]
    refine⟨.ag (ar ((Expr.mk k1 p1 n1 v1 q1 m1 ks1 ss1)).row),[c2.cs],⟨c2,⟨_,rfl,hg,aa⟩,rfl,i2⟩,au ?_⟩
    simp (maxSteps:=9999999) only[tt,seval,ai,Cur.cs]
  ·skip
   simp (maxSteps:=9999999) only[tt,seval] at h5
   simp (maxSteps:=9999999) only[tt,seval,h5,Cur.cs,dj,Int.ofNat_lt]
   refine ab (fun hlt=>?_) (fun hge=>?_)
   ·try simp (maxSteps:=9999999) only[tt,seval,h5,Cur.cs,dj,Tok.row,Val.row]
    rw[dW i aa]
    refine⟨[.ren 17 10017],ae,ae,?_⟩
    simp (maxSteps:=9999999) only[tt,seval,py]
    refine⟨[(9000,.str c2.cs),(3,.str [.v (.int .i64 3),.v (.int .i64 16),.v (.bool false),.v (.int .i64 0),.v (.int .i64 0),.v (.string ByteArray.empty),.v (.string ByteArray.empty),.v (.string ByteArray.empty),.s 10017 1,.v (.slice none 0 0)]),(10017,.arr 29 1 ([(nB 16 a)].flatMap Expr.row) none),(2,.str [.v (.int .i64 0),.v (.int .i64 0),.v (.bool false),.v (.int .i64 0),.v (.int .i64 0),.v (.string ByteArray.empty),.v (.string ByteArray.empty),.v (.string ByteArray.empty),.v (.slice none 0 0),.v (.slice none 0 0)])],none,by simp only[ai,H7,List.flatMap_nil,List.flatMap_cons,List.append_nil,List.length_nil,List.length_cons,nB,z0,zVal,Cur.cs];exact ak rfl (ak rfl (ak rfl (ak rfl (aq _)))),av _,⟨i+1,nB 16 (nB 16 a),by simp,aa,DJ hg hz,.inr ⟨(nB 16 a),rfl,rfl⟩,rfl⟩,aE⟩
   ·try simp (maxSteps:=9999999) only[tt,seval,h5,Cur.cs,dj,Tok.row,Val.row]
    refine⟨.ag (ar ((nB 16 a)).row),[c2.cs],⟨c2,⟨_,rfl,hg,aa⟩,rfl,i2⟩,au ?_⟩
    simp (maxSteps:=9999999) only[tt,seval,ai,nB,z0,zVal,Cur.cs]
end
end Go.Proofs.YtoegnikpokgbfaaGreatDoor
