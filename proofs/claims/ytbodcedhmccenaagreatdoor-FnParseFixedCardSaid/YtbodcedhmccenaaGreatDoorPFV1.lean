/-
  Draws of expressions and queries.
  Conditions: none.
-/
import Derived.Test.YtbodcedhmccenaaGreatDoorPFF1
set_option linter.unusedVariables false
set_option linter.unusedSimpArgs false
set_option linter.unusedSectionVars false
set_option maxRecDepth 8000
namespace Go.Proofs.YtbodcedhmccenaaGreatDoor
open Go Go.Dv
open Go.Vc (D dg dh cX bk)
def oI (b:Int):List D:=[.lit (.int .u8 b)]
theorem rS (b:Int):(oI b).length=1:=rfl
theorem An (b:Int) (r:List D):oI b++r≠[]:=fun h=>by cases h
structure Cur where
 b:List Int
 i:Int
 h:Int
def Cur.cs (c:Cur):List C:=[.sl c.b.length (c.b.flatMap oI) none,.v (.int .i64 c.i),.v (.int .i64 c.h)]
def K2 (P:Int->Prop) (r:S) (os:List (List C)):Prop:=∃x c',r=vi x/\os=[Cur.cs c']/\P x/\0<=c'.i
def xq (P:S->Prop) (r:S) (os:List (List C)):Prop:=∃c':Cur,P r/\os=[c'.cs]/\0<=c'.i
theorem m6 (c:Cur) (h0:0<=c.i):Cl Tryz.prog 133 [.c (.p 9000 0)] [c.cs] (K2 fun x=>0<=x/\x<=255):=by
 obtain⟨bs,i,h⟩:=c
 have h0:0<=i:=h0
 rw[Cur.cs]
 refine ai ac false Tryz.func133 rfl ae ?_
 simp only[Tryz.f133,tt,seval]
 refine dDrawn.intro [] (j3 [0,2,4,6,8,10,12,14,16,18,20,22,24]) ae ?_
 simp only[tt,seval]
 refine dDrawn.intro [] (j3 [0,2,4,6,8,10,12,14,16,18]) ae ?_
 simp only[tt,seval]
 intro hln
 refine ab (fun hlt=>?_) (fun hge=>?_)
 ·skip
  refine dDrawn.intro [] (j3 [0,2,4,6,8,10,12,14,16,18,20,22,24,26,28]) ae ?_
  simp only[tt,seval]
  have hlt':i.toNat<bs.length:=by omega
  refine⟨h0,hlt,_,aH rS (aD hlt'),An _ _,?_⟩
  simp only[tt,seval,oI]
  rw[ax (n:=i+1) aa aa]
  exact⟨_,_,⟨_,⟨bs,i+1,_⟩,rfl,rfl,bk _,by show (0:Int)<=i+1;omega⟩,gq rfl rfl⟩
 ·skip
  exact⟨_,_,⟨_,⟨bs,i,_⟩,rfl,rfl,bk _,h0⟩,gq rfl rfl⟩
theorem bj (c:Cur) (h0:0<=c.i) (n:Int):Cl Tryz.prog 61 [.c (.p 9000 0),vi n] [c.cs] (K2 fun x=>0<=x/\(0<n->x<n)):=by
 refine ai ac false Tryz.func61 rfl ae ?_
 simp only[Tryz.f61,tt,seval]
 refine ab (fun h=>?_) (fun h=>ab (fun h1=>?_) (fun h1=>?_))
 ·exact⟨_,_,⟨0,c,rfl,rfl,⟨aa,aa⟩,h0⟩,gq rfl rfl⟩
 ·skip
  refine CallQ.intro (m6 c h0) ?_ ?_ ?_
  ·decide
  ·simp only[tt,seval,Cur.cs]
  rintro r os ⟨x,c1,rfl,rfl,hx,ix⟩ hos
  simp only[tt,seval,Cur.cs]
  rw[ye aa]
  simp only[tt,seval]
  exact⟨_,_,⟨_,c1,rfl,rfl,⟨Int.tmod_nonneg _ hx.1,fun h2=>Int.tmod_lt_of_pos _ h2⟩,ix⟩,gq rfl rfl⟩
 ·skip
  refine CallQ.intro (m6 c h0) ?_ ?_ ?_
  ·decide
  ·simp only[tt,seval,Cur.cs]
  rintro r os ⟨x,c1,rfl,rfl,hx,ix⟩ hos
  simp only[tt,seval,Cur.cs]
  refine CallQ.intro (m6 c1 ix) ?_ ?_ ?_
  ·decide
  ·simp only[tt,seval,Cur.cs]
  rintro r os ⟨y,c2,rfl,rfl,hy,iy⟩ hos
  simp only[tt,seval,Cur.cs]
  refine CallQ.intro (m6 c2 iy) ?_ ?_ ?_
  ·decide
  ·simp only[tt,seval,Cur.cs]
  rintro r os ⟨z,c3,rfl,rfl,hz,iz⟩ hos
  simp only[tt,seval,Cur.cs]
  refine CallQ.intro (m6 c3 iz) ?_ ?_ ?_
  ·decide
  ·simp only[tt,seval,Cur.cs]
  rintro r os ⟨w,c4,rfl,rfl,hw,iw⟩ hos
  simp only[tt,seval,Cur.cs]
  rw[ye aa]
  simp only[tt,seval]
  have e1:=ax (n:=x*16777216) aa aa
  have e2:=ax (n:=y*65536) aa aa
  have e3:=ax (n:=z*256) aa aa
  have e4:=ax (n:=x*16777216+y*65536) aa aa
  have e5:=ax (n:=x*16777216+y*65536+z*256) aa aa
  have e6:=ax (n:=x*16777216+y*65536+z*256+w) aa aa
  rw[e1,e2,e3,e4,e5,e6]
  exact⟨_,_,⟨_,c4,rfl,rfl,⟨Int.tmod_nonneg _ aa,fun h2=>Int.tmod_lt_of_pos _ h2⟩,iw⟩,gq rfl rfl⟩
theorem Gj (bs:List Int):IR Tryz.prog 59 [.c (.sl bs.length (bs.flatMap oI) none)] fun cs=>∃c:Cur,cs=c.cs/\0<=c.i:=by
 refine CW ac Tryz.func59 rfl ae rfl ?_
 simp only[Tryz.f59,tt,seval]
 intro hln
 refine dLoop.intro (fun f L p=>∃(i:Nat) (h:Int),f 4=vi i/\f 3=vi h/\L=[]/\p=none/\i<=bs.length)
  (fun f _ _=>(bs.length-eH (f 4)).toNat) [] none ⟨ao _,aq _,?_⟩ ?_
 ·simp only[tt,seval]
  exact⟨0,_,rfl,rfl,aa⟩
 ·rintro g L p ⟨i,h,h4,h3,rfl,rfl,hi⟩
  simp only[tt,seval] at h4 h3
  simp only[tt,seval,h4]
  refine fun _=>ab (fun hlt=>?_) (fun hge=>?_)
  ·simp only[tt,seval,h4,h3]
   have hlt:i<bs.length:=by simpa using hlt
   refine ab (fun h40=>?_) (fun h40=>?_)
   ·refine⟨aa,aa,_,aH rS (aD hlt),An _ _,?_⟩
    simp only[tt,seval,h4,oI]
    rw[eS i aa]
    exact⟨[],none,ao _,aq _,⟨i+1,_,by simp,rfl,rfl,rfl,aa⟩,aB⟩
   ·exact⟨_,rfl,rfl,⟨bs,0,h⟩,rfl,Int.le_refl _⟩
  ·simp only[tt,seval,h4,h3]
   exact⟨_,rfl,rfl,⟨bs,0,h⟩,rfl,Int.le_refl _⟩
theorem cg (c:Cur) (h0:0<=c.i) (n:Int):Cl Tryz.prog 66 [.c (.p 9000 0),vi n] [c.cs] (xq fun r=>∃b,r=vb b):=by
 refine ai ac false Tryz.func66 rfl ae ?_
 simp only[Tryz.f66,tt,seval]
 refine CallQ.intro (bj c h0 n) ?_ ?_ ?_
 ·decide
 ·simp only[tt,seval,Cur.cs]
 rintro r os ⟨x,c1,rfl,rfl,hx,i1⟩ hos
 simp only[tt,seval,Cur.cs]
 exact⟨_,_,⟨c1,⟨_,rfl⟩,rfl,i1⟩,gq rfl rfl⟩
theorem eg (c:Cur) (h0:0<=c.i) (ss:List ByteArray) (hne:0<ss.length):Cl Tryz.prog 79 [.c (.p 9000 0),.c (.sl ss.length (ss.flatMap srow) none)] [c.cs] (xq fun r=>∃s∈ss,r=vs s):=by
 refine ai ac false Tryz.func79 rfl ae ?_
 simp only[Tryz.f79,tt,seval]
 intro hln
 refine CallQ.intro (bj c h0 ss.length) ?_ ?_ ?_
 ·decide
 ·simp only[tt,seval,Cur.cs]
 rintro r os ⟨x,c1,rfl,rfl,hx,i1⟩ hos
 simp only[tt,seval,Cur.cs]
 have hx2:=hx.2 aa
 obtain⟨k,rfl⟩:∃k:Nat,x=k:=⟨x.toNat,aa⟩
 have hk:k<ss.length:=by omega
 refine⟨aa,aa,_,aH fE (aD hk),jY _ _,?_⟩
 simp only[tt,seval,srow]
 exact⟨_,_,⟨c1,⟨_,aO hk,rfl⟩,rfl,i1⟩,gq rfl rfl⟩
theorem pU (c:Cur) (h0:0<=c.i) (ss:List Int) (hne:0<ss.length):Cl Tryz.prog 132 [.c (.p 9000 0),.c (.sl ss.length (ss.flatMap irow) none)] [c.cs] (xq fun r=>∃s∈ss,r=vi s):=by
 refine ai ac false Tryz.func132 rfl ae ?_
 simp only[Tryz.f132,tt,seval]
 intro hln
 refine CallQ.intro (bj c h0 ss.length) ?_ ?_ ?_
 ·decide
 ·simp only[tt,seval,Cur.cs]
 rintro r os ⟨x,c1,rfl,rfl,hx,i1⟩ hos
 simp only[tt,seval,Cur.cs]
 have hx2:=hx.2 aa
 obtain⟨k,rfl⟩:∃k:Nat,x=k:=⟨x.toNat,aa⟩
 have hk:k<ss.length:=by omega
 refine⟨aa,aa,_,aH vx (aD hk),Et _ _,?_⟩
 simp only[tt,seval,irow]
 exact⟨_,_,⟨c1,⟨_,aO hk,rfl⟩,rfl,i1⟩,gq rfl rfl⟩
theorem Bw (bs:List Int) (m:Int) (h0:2<=m):Cl Tryz.prog 62 [.c (.sl bs.length (bs.flatMap oI) none),vi m] [] fun r _=>∃x:Int,r=vi x/\2<=x/\x<=m:=by
 refine ai ac false Tryz.func62 rfl ae ?_
 simp only[Tryz.f62,tt,seval]
 intro hln
 rw[Int.tdiv_eq_ediv_of_nonneg (by omega:(0:Int)<=bs.length),ax (n:=(bs.length:Int) / 20) aa aa,ax aa aa]
 exact ab (fun h=>⟨_,_,⟨_,rfl,h0,Int.le_refl _⟩,ap rfl⟩) (fun h=>⟨_,_,⟨_,rfl,aa,aa⟩,ap rfl⟩)
theorem Jj (bs:List Int):Cl Tryz.prog 11 [.c (.sl bs.length (bs.flatMap oI) none)] [] fun r _=>r=vb (decide ((1048576:Int)<(bs.length:Int))):=by
 refine ai ac false Tryz.func11 rfl ae ?_
 simp only[Tryz.f11,tt,seval]
 refine fun _=>?_
 exact⟨_,_,rfl,ap rfl⟩
theorem GW (a b:Int) (w:World):(Op.equalIn 10000 40 (.agg [.int .i64 a,.int .i64 b].toArray) (.agg [.int .i64 a,.int .i64 b].toArray)).run Tryz.prog w = .ok true w:=by
 refine Go.Vc.equalIn_fk (ks:=[(0,.int),(1,.int)]) ae ae ae ?_ w
 simp only[Go.Vc.eqFK,List.getElem?_cons_zero,List.getElem?_cons_succ]
 simp
def yF (x:Int):Prop:=-9223372036854775808<=x/\x<=9223372036854775807
theorem pt (c:Cur) (h0:0<=c.i):Cl Tryz.prog 236 [.c (.p 9000 0)] [c.cs] (xq fun r=>∃x,r=vi x/\yF x):=by
 refine ai ac false Tryz.func236 rfl ae ?_
 simp only[Tryz.f236,tt,seval]
 refine CallQ.intro (bj c h0 3) ?_ ?_ ?_
 ·decide
 ·simp only[tt,seval,Cur.cs]
 rintro r os ⟨x,c1,rfl,rfl,hx,i1⟩ hos
 simp only[tt,seval,Cur.cs]
 refine ab (fun h=>?_) (fun h=>ab (fun h2=>?_) (fun h2=>?_))
 ·skip
  refine fe [8] ?_
  simp only[tt,seval]
  refine Call1.intro (pU c1 i1 [0,1,-1,63,64,-64,-65,127,128,16383,16384,9223372036854775807,-9223372036854775808,4611686018427387904] ah) ?_ ?_ ?_
  ·decide
  ·simp only[tt,seval,Cur.cs,irow]
  rintro r os ⟨c2,⟨s,hs,rfl⟩,rfl,i2⟩ hos
  simp only[tt,seval,Cur.cs,irow]
  exact⟨_,_,⟨c2,⟨_,rfl,(by decide:∀s∈([0,1,-1,63,64,-64,-65,127,128,16383,16384,9223372036854775807,-9223372036854775808,4611686018427387904]:List Int),-9223372036854775808<=s/\s<=9223372036854775807) s hs⟩,rfl,i2⟩,gq rfl rfl⟩
 ·skip
  refine CallQ.intro (bj c1 i1 1000000) ?_ ?_ ?_
  ·decide
  ·simp only[tt,seval,Cur.cs]
  rintro r os ⟨y,c2,rfl,rfl,hy,i2⟩ hos
  simp only[tt,seval,Cur.cs]
  have:=hy.2 aa
  rw[ax (n:=y-500000) aa aa]
  exact⟨_,_,⟨c2,⟨_,rfl,by unfold yF;omega⟩,rfl,i2⟩,gq rfl rfl⟩
 ·skip
  refine CallQ.intro (bj c1 i1 20) ?_ ?_ ?_
  ·decide
  ·simp only[tt,seval,Cur.cs]
  rintro r os ⟨y,c2,rfl,rfl,hy,i2⟩ hos
  simp only[tt,seval,Cur.cs]
  have:=hy.2 aa
  exact⟨_,_,⟨c2,⟨_,rfl,by unfold yF;omega⟩,rfl,i2⟩,gq rfl rfl⟩
theorem rT (n:Int):Cl Tryz.prog 321 [vi n] [] fun r _=>r = .ag (ar (Val.mk 1 n ⟨#[]⟩).row):=by
 rw[Val.row]
 refine ai ac false Tryz.func321 rfl ae ?_
 simp only[Tryz.f321,tt,seval]
 exact⟨_,_,rfl,ap rfl⟩
theorem uX (s:ByteArray):Cl Tryz.prog 312 [vs s] [] fun r _=>r = .ag (ar (Val.mk 2 0 s).row):=by
 rw[Val.row]
 refine ai ac false Tryz.func312 rfl ae ?_
 simp only[Tryz.f312,tt,seval]
 exact⟨_,_,rfl,ap rfl⟩
theorem xr (b:Bool):Cl Tryz.prog 313 [vb b] [] fun r _=>r = .ag (ar (Val.mk 3 (if b=true then 1 else 0) ⟨#[]⟩).row):=by
 rw[Val.row]
 refine ai ac false Tryz.func313 rfl ae ?_
 simp only[Tryz.f313,tt,seval]
 refine ab (fun h=>?_) (fun h=>?_)
 ·subst h;exact⟨_,_,rfl,ap rfl⟩
 ·subst h;exact⟨_,_,rfl,ap rfl⟩
def KR (v:Val):Prop:=yF v.num/\(v=⟨0,0,⟨#[]⟩⟩∨(v.kind=1/\v.text=⟨#[]⟩)∨(v.kind=2/\v.num=0/\v.text.size<=40)∨(v.kind=3/\(v.num=0∨v.num=1)/\v.text=⟨#[]⟩))
def K3 (P:Val->Prop) (r:S):Prop:=∃v:Val,r = .ag (ar v.row)/\P v
theorem Bx (c:Cur) (h0:0<=c.i):Cl Tryz.prog 290 [.c (.p 9000 0)] [c.cs] (xq (K3 KR)):=by
 refine ai ac false Tryz.func290 rfl ae ?_
 simp only[Tryz.f290,tt,seval]
 refine CallQ.intro (bj c h0 6) ?_ ?_ ?_
 ·decide
 ·simp only[tt,seval,Cur.cs]
 rintro r os ⟨x,c1,rfl,rfl,hx,i1⟩ hos
 simp only[tt,seval,Cur.cs]
 refine ab (fun h=>?_) (fun h=>ab (fun h2=>?_) (fun h2=>ab (fun h3=>?_) (fun h3=>ab (fun h4=>?_) (fun h4=>?_))))
 ·exact⟨_,_,⟨c1,⟨⟨0,0,⟨#[]⟩⟩,rfl,by unfold yF;decide,.inl rfl⟩,rfl,i1⟩,gq rfl rfl⟩
 ·skip
  refine fe [11] ?_
  simp only[tt,seval]
  refine Call1.intro (eg c1 i1 [⟨#[]⟩,⟨#[97]⟩,⟨#[98]⟩,⟨#[105,116,39,115]⟩,⟨#[97,98]⟩,⟨#[255]⟩] ah) ?_ ?_ ?_
  ·decide
  ·simp only[tt,seval,Cur.cs,srow]
  rintro r os ⟨c2,⟨s,hs,rfl⟩,rfl,ic2⟩ hos
  simp only[tt,seval,Cur.cs,srow]
  refine cZ (uX s) ?_ ?_<;>simp only[tt,seval,Val.row]
  exact⟨_,_,⟨c2,⟨⟨2,0,s⟩,rfl,(show yF 0 by unfold yF;decide),.inr (.inr (.inl ⟨rfl,rfl,(by decide:∀s∈[⟨#[]⟩,⟨#[97]⟩,⟨#[98]⟩,⟨#[105,116,39,115]⟩,⟨#[97,98]⟩,⟨#[255]⟩],s.size<=40) s hs⟩))⟩,rfl,ic2⟩,gq rfl rfl⟩
 ·skip
  refine CallQ.intro (cg c1 i1 2) ?_ ?_ ?_
  ·decide
  ·simp only[tt,seval,Cur.cs]
  rintro r os ⟨c2,⟨b,rfl⟩,rfl,i2⟩ hos
  simp only[tt,seval,Cur.cs]
  refine cZ (xr b) ?_ ?_<;>simp only[tt,seval,Val.row]
  exact⟨_,_,⟨c2,⟨⟨3,if b=true then 1 else 0,⟨#[]⟩⟩,rfl,by unfold yF;cases b<;>decide,.inr (.inr (.inr ⟨rfl,by cases b<;>decide,rfl⟩))⟩,rfl,i2⟩,gq rfl rfl⟩
 ·skip
  refine CallQ.intro (pt c1 i1) ?_ ?_ ?_
  ·decide
  ·simp only[tt,seval,Cur.cs]
  rintro r os ⟨c2,⟨x,rfl,hx2⟩,rfl,i2⟩ hos
  simp only[tt,seval,Cur.cs]
  refine cZ (rT x) ?_ ?_<;>simp only[tt,seval,Val.row]
  exact⟨_,_,⟨c2,⟨⟨1,x,⟨#[]⟩⟩,rfl,hx2,.inr (.inl ⟨rfl,rfl⟩)⟩,rfl,i2⟩,gq rfl rfl⟩
 ·skip
  refine CallQ.intro (bj c1 i1 7) ?_ ?_ ?_
  ·decide
  ·simp only[tt,seval,Cur.cs]
  rintro r os ⟨y,c2,rfl,rfl,hy,i2⟩ hos
  simp only[tt,seval,Cur.cs]
  have:=hy.2 aa
  rw[ax (n:=y-2) aa aa]
  refine cZ (rT (y-2)) ?_ ?_<;>simp only[tt,seval,Val.row]
  exact⟨_,_,⟨c2,⟨⟨1,y-2,⟨#[]⟩⟩,rfl,(show yF (y-2) by unfold yF;omega),.inr (.inl ⟨rfl,rfl⟩)⟩,rfl,i2⟩,gq rfl rfl⟩
theorem m8 (c:Cur) (h0:0<=c.i):Cl Tryz.prog 131 [.c (.p 9000 0)] [c.cs] (xq fun r=>∃s,r=vs s/\bK s=true):=by
 refine ai ac false Tryz.func131 rfl ae ?_
 simp only[Tryz.f131,tt,seval]
 refine CallQ.intro (cg c h0 6) ?_ ?_ ?_
 ·decide
 ·simp only[tt,seval,Cur.cs]
 rintro r os ⟨c1,⟨b,rfl⟩,rfl,i1⟩ hos
 simp only[tt,seval,Cur.cs]
 refine ab (fun hb=>?_) (fun hb=>?_)
 ·skip
  refine fe [6] ?_
  simp only[tt,seval]
  refine Call1.intro (eg c1 i1 [⟨#[97,32,98]⟩,⟨#[102,114,111,109]⟩,⟨#[83,101,108,101,99,116]⟩,⟨#[49,120]⟩,⟨#[113,34,113]⟩,⟨#[0]⟩,⟨#[34]⟩,⟨#[105,116,39,115]⟩,⟨#[120,46,121]⟩,⟨#[45]⟩] ah) ?_ ?_ ?_
  ·decide
  ·simp only[tt,seval,Cur.cs,srow]
  rintro r os ⟨c2,⟨s,hs,rfl⟩,rfl,ic2⟩ hos
  simp only[tt,seval,Cur.cs,srow]
  exact⟨_,_,⟨c2,⟨_,rfl,(by decide:∀s∈[⟨#[97,32,98]⟩,⟨#[102,114,111,109]⟩,⟨#[83,101,108,101,99,116]⟩,⟨#[49,120]⟩,⟨#[113,34,113]⟩,⟨#[0]⟩,⟨#[34]⟩,⟨#[105,116,39,115]⟩,⟨#[120,46,121]⟩,⟨#[45]⟩],bK s=true) s hs⟩,rfl,ic2⟩,gq rfl rfl⟩
 ·skip
  refine fe [9] ?_
  simp only[tt,seval]
  refine Call1.intro (eg c1 i1 [⟨#[97]⟩,⟨#[98]⟩,⟨#[99]⟩,⟨#[116]⟩,⟨#[117]⟩,⟨#[118]⟩,⟨#[105,100]⟩,⟨#[110,97,109,101]⟩,⟨#[65]⟩,⟨#[95,120,49]⟩] ah) ?_ ?_ ?_
  ·decide
  ·simp only[tt,seval,Cur.cs,srow]
  rintro r os ⟨c2,⟨s,hs,rfl⟩,rfl,ic2⟩ hos
  simp only[tt,seval,Cur.cs,srow]
  exact⟨_,_,⟨c2,⟨_,rfl,(by decide:∀s∈[⟨#[97]⟩,⟨#[98]⟩,⟨#[99]⟩,⟨#[116]⟩,⟨#[117]⟩,⟨#[118]⟩,⟨#[105,100]⟩,⟨#[110,97,109,101]⟩,⟨#[65]⟩,⟨#[95,120,49]⟩],bK s=true) s hs⟩,rfl,ic2⟩,gq rfl rfl⟩
theorem tQ (c:Cur) (h0:0<=c.i):Cl Tryz.prog 234 [.c (.p 9000 0)] [c.cs] (xq (K3 fun v=>jh v=true/\v.num<=9223372036854775807 /\ -9223372036854775808<=v.num)):=by
 refine ai ac false Tryz.func234 rfl ae ?_
 simp only[Tryz.f234,tt,seval]
 refine CallQ.intro (Bx c h0) ?_ ?_ ?_
 ·decide
 ·simp only[tt,seval,Cur.cs]
 rintro r os ⟨c1,⟨⟨k,n,x⟩,rfl,hw,hv⟩,rfl,i1⟩ hos
 simp only[tt,seval,Cur.cs,Val.row]
 have hw:yF n:=hw
 have lit:∀n':Int,(k=1->0<=n')->(k≠1->n'=n)->jh ⟨k,n',x⟩=true:=fun n' h1 h2=>by
  rcases hv with h|⟨hk,hx⟩|⟨hk,hn,hx⟩|⟨hk,hn,hx⟩
  ·injection h with a b d
   subst a b d
   rw[h2 ah];decide
  ·have hk:k=1:=hk
   have hx:x=⟨#[]⟩:=hx
   subst hk hx
   have:=h1 rfl
   simp [jh,dE,this]
   exact Nat.zero_le _
  ·have hk:k=2:=hk
   have hn0:n=0:=hn
   have hx0:x.size<=40:=hx
   subst hk
   rw[h2 ah,hn0]
   have:x.size<=200:=by omega
   simp [jh,dE,hx0]
   omega
  ·have hk:k=3:=hk
   have hn:n=0∨n=1:=hn
   have hx:x=⟨#[]⟩:=hx
   subst hk hx
   rw[h2 ah]
   rcases hn with rfl|rfl<;>decide
 by_cases hk:k=1
 ·simp only[tt,seval,az hk]
  refine ab (fun hn=>?_) (fun hn=>?_)
  ·try simp only[tt,seval,Cur.cs]
   refine⟨.ag (ar (Val.mk k 9223372036854775807 x).row),[c1.cs],⟨c1,⟨⟨k,9223372036854775807,x⟩,rfl,lit _ (fun _=>by decide) (fun h=>absurd hk h),by show (9223372036854775807:Int)<=_;omega,by show _<=(9223372036854775807:Int);omega⟩,rfl,i1⟩,am ?_⟩
   simp only[tt,seval,Val.row,Cur.cs]
  ·try simp only[tt,seval,Cur.cs]
   refine⟨.ag (ar (Val.mk k n x).row),[c1.cs],⟨c1,⟨⟨k,n,x⟩,rfl,lit _ (fun _=>by omega) (fun _=>rfl),hw.2,hw.1⟩,rfl,i1⟩,am ?_⟩
   simp only[tt,seval,Val.row,Cur.cs]
 ·simp only[tt,seval,au hk]
  refine⟨.ag (ar (Val.mk k n x).row),[c1.cs],⟨c1,⟨⟨k,n,x⟩,rfl,lit _ (fun h=>absurd h hk) (fun _=>rfl),hw.2,hw.1⟩,rfl,i1⟩,am ?_⟩
  simp only[tt,seval,Val.row,Cur.cs]
theorem Ea (c:Cur) (h0:0<=c.i):Cl Tryz.prog 291 [.c (.p 9000 0)] [c.cs] (xq fun r=>∃s,r=vs s/\s.size<=40):=by
 refine ai ac false Tryz.func291 rfl ae ?_
 simp only[Tryz.f291,tt,seval]
 refine fe [4] ?_
 simp only[tt,seval,Cur.cs]
 refine Call1.intro (eg c h0 [⟨#[40]⟩,⟨#[41]⟩,⟨#[44]⟩,⟨#[46]⟩,⟨#[42]⟩,⟨#[43]⟩,⟨#[45]⟩,⟨#[47]⟩,⟨#[37]⟩,⟨#[61]⟩,⟨#[60,62]⟩,⟨#[60]⟩,⟨#[60,61]⟩,⟨#[62]⟩,⟨#[62,61]⟩,⟨#[124,124]⟩] ah) ?_ ?_ ?_
 ·decide
 ·simp only[tt,seval,Cur.cs,srow]
 rintro r os ⟨c2,⟨s,hs,rfl⟩,rfl,ic2⟩ hos
 simp only[tt,seval,Cur.cs,srow]
 exact⟨_,_,⟨c2,⟨_,rfl,(by decide:∀s∈[⟨#[40]⟩,⟨#[41]⟩,⟨#[44]⟩,⟨#[46]⟩,⟨#[42]⟩,⟨#[43]⟩,⟨#[45]⟩,⟨#[47]⟩,⟨#[37]⟩,⟨#[61]⟩,⟨#[60,62]⟩,⟨#[60]⟩,⟨#[60,61]⟩,⟨#[62]⟩,⟨#[62,61]⟩,⟨#[124,124]⟩],s.size<=40) s hs⟩,rfl,ic2⟩,gq rfl rfl⟩
theorem rU {α:Type} [Inhabited α] {F:(Expr->α)->Expr->α} (hF:∀e g g',(∀x,f6 x e->g x=g' x)->F g e=F g' e) (e:Expr):dT F e=F (dT F) e:=by
 rw[dT]
 exact hF _ _ _ fun x hx=>by simp only[dif_pos (ld hx)]
theorem nz {α:Type} {g g':α->Bool} {l:List α} (h:∀x,x∈l->g x=g' x):l.all g=l.all g':=by
 induction l with
 |nil=>rfl
 |cons y r ih=>rw[List.all_cons,List.all_cons,h y (by simp),ih fun x hx=>h x (by simp [hx])]
theorem uY (e:Expr):fmE e=tJ fmE e:=rU (fun e g g' h=>by
 obtain⟨k,o,n,v,q,m,ks,ss⟩:=e
 show (_&&(ks.all g&&ss.all (hZ g)))=(_&&(ks.all g'&&ss.all (hZ g')))
 rw[nz (l:=ks) fun x hx=>h x (.inl hx),nz (l:=ss) (g:=hZ g) (g':=hZ g') fun q hq=>by
  show (_&&_)=(_&&_)
  rw[nz fun x hx=>h x (.inr ⟨q,hq,hx⟩)]]) e
theorem uZ (e:Expr):ndE e=zU ndE e:=rU (fun e g g' h=>by
 obtain⟨k,o,n,v,q,m,ks,ss⟩:=e
 show 1+(ks.map g).sum+(ss.map fun q=>((exprsQ q).map g).sum).sum=1+(ks.map g').sum+(ss.map fun q=>((exprsQ q).map g').sum).sum
 rw[List.map_congr_left (l:=ks) fun x hx=>h x (.inl hx),List.map_congr_left (l:=ss) (f:=fun q=>((exprsQ q).map g).sum) (g:=fun q=>((exprsQ q).map g').sum) fun q hq=>by
  show ((exprsQ q).map g).sum=_
  rw[List.map_congr_left fun x hx=>h x (.inr ⟨q,hq,hx⟩)]]) e
theorem v7 (e:Expr):dpE e=GK dpE e:=rU (fun e g g' h=>by
 obtain⟨k,o,n,v,q,m,ks,ss⟩:=e
 show 1+bY (ks.map g++ss.map fun q=>bY ((exprsQ q).map g))=1+bY (ks.map g'++ss.map fun q=>bY ((exprsQ q).map g'))
 rw[List.map_congr_left (l:=ks) fun x hx=>h x (.inl hx),List.map_congr_left (l:=ss) (f:=fun q=>bY ((exprsQ q).map g)) (g:=fun q=>bY ((exprsQ q).map g')) fun q hq=>by
  show bY ((exprsQ q).map g)=_
  rw[List.map_congr_left fun x hx=>h x (.inr ⟨q,hq,hx⟩)]]) e
def dN:Nat->Nat
 |0=>1
 |d+1=>1+3*dN d
theorem KS:dN 3=40:=rfl
theorem rV:∀d,1<=dN d
 |0=>Nat.le_refl _
 |d+1=>by rw[dN];omega
theorem Gl {a b:Nat} (h:a<=b):dN a<=dN b:=by
 induction b with
 |zero=>rw[Nat.le_zero.1 h];exact Nat.le_refl _
 |succ b ih=>
  by_cases e:a=b+1
  ·subst e;exact Nat.le_refl _
  ·rw[dN];have:=ih aa;omega
structure DrE (d:Nat) (e:Expr):Prop where
 fm:fmE e=true
 rg:Rg e
 nn:ndE e<=dN d
 dp:dpE e<=d+1
 sz:szExpr e<=200*dN d
structure DrQ (d:Nat) (q:Query):Prop where
 hd:hdB q=true
 li:q.lim<=9223372036854775807
 ex:∀x,x∈exprsQ q->DrE d x
 few:(exprsQ q).length<=5
 sz:szQuery q<=400+1000*dN d
theorem DrQ.fm {d:Nat} {q:Query} (h:DrQ d q):hZ fmE q=true:=by
 unfold hZ
 rw[h.hd,Bool.true_and];exact List.all_eq_true.2 fun x hx=>(h.ex x hx).fm
theorem er {α:Type} {g:α->Nat} {b:Nat}:∀ {l:List α},(∀x,x∈l->g x<=b)->(l.map g).sum<=l.length*b
 | [],_=>by simp
 |x::r,h=>by
  have h1:=h x (by simp)
  have h2:=er (l:=r) fun y hy=>h y (by simp [hy])
  rw[List.map_cons,List.sum_cons,List.length_cons,Nat.succ_mul];omega
theorem DrQ.nodes {d:Nat} {q:Query} (h:DrQ d q):((exprsQ q).map ndE).sum<=5*dN d:=by
 have h1:=er (g:=ndE) fun x hx=>(h.ex x hx).nn
 exact Nat.le_trans h1 (Nat.mul_le_mul_right _ h.few)
theorem DrE.lit {v:Val} (h:jh v=true) (h1:v.num<=9223372036854775807) (h0 : -9223372036854775808<=v.num) (d:Nat):DrE d (.mk 1 0 false v ⟨#[]⟩ ⟨#[]⟩ [] []):=by
 have hp:=rV d
 have ht:v.text.size<=40:=by
  unfold jh at h
  simp only[Bool.and_eq_true,decide_eq_true_eq] at h
  exact h.2.2
 refine⟨?_,.mk ⟨h0,h1⟩ (fun _ h=>by cases h) (fun _ h=>by cases h) (fun _ h=>by cases h),?_,?_,?_⟩
 ·rw[uY];simp [tJ,aI,cP,bV,h]
 ·rw[uZ];show 1+0+0<=_;omega
 ·rw[v7];show 1+0<=_;omega
 ·rw[cL,aT,bT]
  show pw v+_<=_
  simp [pw]
  have e0:({ data:=#[] }:ByteArray).size=0:=rfl
  omega
theorem DrE.col {q n:ByteArray} (hn:bK n=true) (hq:d9 q=true) (d:Nat):DrE d (.mk 2 0 false ⟨0,0,⟨#[]⟩⟩ q n [] []):=by
 have hp:=rV d
 have h1:n.size<=20:=by
  simp only[bK,decide_eq_true_eq] at hn;omega
 have h2:q.size<=20:=by
  simp only[d9,bK,Bool.or_eq_true,decide_eq_true_eq] at hq
  rcases hq with rfl|hq
  ·decide
  ·omega
 refine⟨?_,.mk ⟨by show _<=(0:Int);omega,by show (0:Int)<=_;omega⟩ (fun _ h=>by cases h) (fun _ h=>by cases h) (fun _ h=>by cases h),?_,?_,?_⟩
 ·rw[uY];simp [tJ,aI,cP,bV,hn,hq,zV]
 ·rw[uZ];show 1+0+0<=_;omega
 ·rw[v7];show 1+0<=_;omega
 ·rw[cL,aT,bT]
  simp [pw]
  have e0:({ data:=#[] }:ByteArray).size=0:=rfl
  omega
theorem DrE.kids {d:Nat} {kind op:Int} {not:Bool} {kids:List Expr} (hs:aI kind op not ⟨0,0,⟨#[]⟩⟩ ⟨#[]⟩ ⟨#[]⟩ kids.length 0=true) (hl:kids.length<=3) (hk:∀x,x∈kids->DrE d x):DrE (d+1) (.mk kind op not ⟨0,0,⟨#[]⟩⟩ ⟨#[]⟩ ⟨#[]⟩ kids []):=by
 have hp:=rV d
 have s1:=er (g:=ndE) fun x hx=>(hk x hx).nn
 have s2:=er (g:=szExpr) fun x hx=>(hk x hx).sz
 have m1:=Nat.mul_le_mul_right (dN d) hl
 have m2:=Nat.mul_le_mul_right (200*dN d) hl
 refine⟨?_,.mk ⟨by show _<=(0:Int);omega,by show (0:Int)<=_;omega⟩ (fun x h=>(hk x h).rg) (fun _ h=>by cases h) (fun _ h=>by cases h),?_,?_,?_⟩
 ·rw[uY]
  show (aI kind op not _ _ _ _ _&&(kids.all fmE&&_))=true
  rw[show (([]:List Query).length:Int)=0 from rfl,hs,List.all_eq_true.2 fun x hx=>(hk x hx).fm];rfl
 ·rw[uZ]
  show 1+(kids.map ndE).sum+0<=dN (d+1)
  rw[dN];omega
 ·rw[v7]
  show 1+bY (kids.map dpE++[])<=_
  have:bY (kids.map dpE++[])<=d+1:=oA fun y hy=>by
   rw[List.append_nil] at hy
   obtain⟨x,hx,rfl⟩:=List.mem_map.1 hy
   exact (hk x hx).dp
  omega
 ·rw[cL,aT,bT]
  show _<=200*dN (d+1)
  rw[dN]
  simp [pw]
  have e0:({ data:=#[] }:ByteArray).size=0:=rfl
  omega
theorem DrE.sub {d:Nat} {kind:Int} {not:Bool} {kids:List Expr} {q:Query} (hs:aI kind 0 not ⟨0,0,⟨#[]⟩⟩ ⟨#[]⟩ ⟨#[]⟩ kids.length 1=true) (hl:kids.length<=1) (hk:∀x,x∈kids->DrE (d+1) x) (hq:DrQ d q):DrE (d+2) (.mk kind 0 not ⟨0,0,⟨#[]⟩⟩ ⟨#[]⟩ ⟨#[]⟩ kids [q]):=by
 have hp:=rV d
 have s1:=er (g:=ndE) fun x hx=>(hk x hx).nn
 have s2:=er (g:=szExpr) fun x hx=>(hk x hx).sz
 have m1:=Nat.mul_le_mul_right (dN (d+1)) hl
 have m2:=Nat.mul_le_mul_right (200*dN (d+1)) hl
 have s3:=hq.nodes
 have s4:=hq.sz
 have e1:dN (d+1)=1+3*dN d:=rfl
 have e2:dN (d+2)=1+3*dN (d+1):=rfl
 refine⟨?_,.mk ⟨by show _<=(0:Int);omega,by show (0:Int)<=_;omega⟩ (fun x h=>(hk x h).rg) (fun y h=>by rw[List.mem_singleton.1 h];exact hq.li) (fun y h x hx=>by rw[List.mem_singleton.1 h] at hx;exact (hq.ex x hx).rg),?_,?_,?_⟩
 ·rw[uY]
  show (aI kind 0 not _ _ _ _ _&&(kids.all fmE&&([q].all (hZ fmE))))=true
  rw[show (([q]:List Query).length:Int)=1 from rfl,hs,List.all_eq_true.2 fun x hx=>(hk x hx).fm,List.all_cons,hq.fm];rfl
 ·rw[uZ]
  show 1+(kids.map ndE).sum+(((exprsQ q).map ndE).sum+0)<=dN (d+2)
  omega
 ·rw[v7]
  show 1+bY (kids.map dpE++[bY ((exprsQ q).map dpE)])<=_
  have:bY (kids.map dpE++[bY ((exprsQ q).map dpE)])<=d+2:=oA fun y hy=>by
   rcases List.mem_append.1 hy with hy|hy
   ·obtain⟨x,hx,rfl⟩:=List.mem_map.1 hy
    exact (hk x hx).dp
   ·rw[List.mem_singleton.1 hy]
    refine oA fun z hz=>?_
    obtain⟨x,hx,rfl⟩:=List.mem_map.1 hz
    have:=(hq.ex x hx).dp;omega
  omega
 ·rw[cL,aT,bT]
  show _<=200*dN (d+2)
  simp [pw]
  have e0:({ data:=#[] }:ByteArray).size=0:=rfl
  omega
def K4 (d:Nat) (r:S):Prop:=∃e:Expr,r = .ag (ar e.row)/\DrE d e
set_option maxHeartbeats 4000000 in
theorem Ao (d:Nat) (c:Cur) (h0:0<=c.i):Cl Tryz.prog 165 [.c (.p 9000 0)] [c.cs] (xq (K4 d)):=by
 refine ai ac false Tryz.func165 rfl ae ?_
 simp only[Tryz.f165,tt,seval]
 refine fe [5] ?_
 simp only[tt,seval,Cur.cs]
 refine Call1.intro (eg c h0 [⟨#[97]⟩,⟨#[98]⟩,⟨#[99]⟩,⟨#[105,100]⟩,⟨#[110,97,109,101]⟩] ah) ?_ ?_ ?_
 ·decide
 ·simp only[tt,seval,Cur.cs,srow]
 rintro r os ⟨c2,⟨s,hs,rfl⟩,rfl,ic2⟩ hos
 simp only[tt,seval,Cur.cs,srow]
 have hs2:bK s=true:=(by decide:∀s∈[⟨#[97]⟩,⟨#[98]⟩,⟨#[99]⟩,⟨#[105,100]⟩,⟨#[110,97,109,101]⟩],bK s=true) s hs
 refine CallQ.intro (cg c2 ic2 3) ?_ ?_ ?_
 ·decide
 ·simp only[tt,seval,Cur.cs,cu]
 rintro r os ⟨c3,⟨b,rfl⟩,rfl,i3⟩ hos
 simp only[tt,seval,Cur.cs,cu]
 refine ab (fun hb=>?_) (fun hb=>?_)
 ·skip
  refine fe [11] ?_
  simp only[tt,seval]
  refine Call1.intro (eg c3 i3 [⟨#[116]⟩,⟨#[117]⟩,⟨#[118]⟩] ah) ?_ ?_ ?_
  ·decide
  ·simp only[tt,seval,Cur.cs,srow]
  rintro r os ⟨c4,⟨q,hq,rfl⟩,rfl,ic4⟩ hos
  simp only[tt,seval,Cur.cs,srow]
  have hq2:d9 q=true:=(by decide:∀s∈[⟨#[116]⟩,⟨#[117]⟩,⟨#[118]⟩],d9 s=true) q hq
  refine CallQ.intro (cg c4 ic4 12) ?_ ?_ ?_
  ·decide
  ·simp only[tt,seval,Cur.cs]
  rintro r os ⟨c7,⟨b7,rfl⟩,rfl,i7⟩ hos
  simp only[tt,seval,Cur.cs]
  refine ab (fun hb7=>?_) (fun hb7=>?_)
  ·skip
   refine CallQ.intro (m8 c7 i7) ?_ ?_ ?_
   ·decide
   ·simp only[tt,seval,Cur.cs]
   rintro r os ⟨c8,⟨s8,rfl,hs8⟩,rfl,i8⟩ hos
   simp only[tt,seval,Cur.cs]
   refine⟨.ag (ar (Expr.mk 2 0 false ⟨0,0,⟨#[]⟩⟩ q s8 [] []).row),[c8.cs],⟨c8,⟨_,rfl,DrE.col (hs8) (hq2) d⟩,rfl,i8⟩,am ?_⟩
   simp only[tt,seval,al,Cur.cs]
  ·skip
   refine⟨.ag (ar (Expr.mk 2 0 false ⟨0,0,⟨#[]⟩⟩ q s [] []).row),[c7.cs],⟨c7,⟨_,rfl,DrE.col (hs2) (hq2) d⟩,rfl,i7⟩,am ?_⟩
   simp only[tt,seval,al,Cur.cs]
 ·skip
  refine CallQ.intro (cg c3 i3 12) ?_ ?_ ?_
  ·decide
  ·simp only[tt,seval,Cur.cs]
  rintro r os ⟨c7,⟨b7,rfl⟩,rfl,i7⟩ hos
  simp only[tt,seval,Cur.cs]
  refine ab (fun hb7=>?_) (fun hb7=>?_)
  ·skip
   refine CallQ.intro (m8 c7 i7) ?_ ?_ ?_
   ·decide
   ·simp only[tt,seval,Cur.cs]
   rintro r os ⟨c8,⟨s8,rfl,hs8⟩,rfl,i8⟩ hos
   simp only[tt,seval,Cur.cs]
   refine⟨.ag (ar (Expr.mk 2 0 false ⟨0,0,⟨#[]⟩⟩ ⟨#[]⟩ s8 [] []).row),[c8.cs],⟨c8,⟨_,rfl,DrE.col (hs8) (ah) d⟩,rfl,i8⟩,am ?_⟩
   simp only[tt,seval,al,Cur.cs]
  ·skip
   refine⟨.ag (ar (Expr.mk 2 0 false ⟨0,0,⟨#[]⟩⟩ ⟨#[]⟩ s [] []).row),[c7.cs],⟨c7,⟨_,rfl,DrE.col (hs2) (ah) d⟩,rfl,i7⟩,am ?_⟩
   simp only[tt,seval,al,Cur.cs]
theorem Jk (l:List Expr) (k0 o0:Int) (n0:Bool) (v0:Val) (q0 m0:ByteArray) (ks0:List Expr) (ss0:List Query):l.flatMap Expr.row++[int k0,int o0,bool n0,int v0.kind,int v0.num,str v0.text,str q0,str m0,.sl ks0.length (ks0.flatMap Expr.row),.sl ss0.length (ss0.flatMap Query.row)]=(l++[Expr.mk k0 o0 n0 v0 q0 m0 ks0 ss0]).flatMap Expr.row:=by
 rw[List.flatMap_append,List.flatMap_cons,List.flatMap_nil,List.append_nil,al]
def Jl (d:Nat):Prop:=∀(c:Cur) (_:0<=c.i),Cl Tryz.prog 130 [.c (.p 9000 0),vi d] [c.cs] (xq (K4 d))
def KT (d:Nat) (r:S):Prop:=∃q:Query,r = .ag (ar q.row)/\DrQ d q
def Im (d:Nat):Prop:=∀(c:Cur) (_:0<=c.i),Cl Tryz.prog 60 [.c (.p 9000 0),vi d] [c.cs] (xq (KT d))
def K5 (d n:Nat) (r:S):Prop:=∃l:List Expr,r = .c (.sl l.length (l.flatMap Expr.row) none)/\l.length=n/\∀x,x∈l->DrE d x
set_option maxHeartbeats 2000000 in
theorem xt (d:Nat) (hd9:d<=100) (hE:Jl d) (n:Nat) (hn:n<=100) (c:Cur) (h0:0<=c.i):Cl Tryz.prog 219 [.c (.p 9000 0),vi (d+1:Nat),vi n] [c.cs] (xq (K5 d n)):=by
 have hdd:IntKind.i64.wrap (((d+1:Nat):Int)-1)=d:=by rw[ax aa aa];omega
 refine ai ac false Tryz.func219 rfl ae ?_
 simp only[Tryz.f219,tt,seval]
 refine dLoop.gh [.ren 9 21] ⟨ah,ah,?_⟩
 refine dLoop0.intro (fun f L p=>∃(i:Nat) (l:List Expr) (c':Cur),f 8=vi i/\f 7 = .c (.s 21 l.length)/\l.length=i/\i<=n/\(∀x,x∈l->DrE d x)/\0<=c'.i/\L=[(21,.arr 52 (l).length ((l).flatMap Expr.row) none),(9000,.str c'.cs)]/\p=none) (fun f _ _=>(n-eH (f 8)).toNat) [(21,.arr 52 (([]:List Expr)).length ((([]:List Expr)).flatMap Expr.row) none),(9000,.str c.cs)] none ⟨ak rfl (ak rfl (ao _)),aq _,?_⟩ ?_
 ·simp only[tt,seval]
  exact⟨0,[],c,rfl,rfl,rfl,Nat.zero_le _,(fun x h=>by cases h),h0,rfl⟩
 ·rintro g L p ⟨i,l,c1,h8,h7,hl,hi,hal,i1,rfl,rfl⟩
  simp only[tt,seval] at h8 h7
  simp only[tt,seval,h8,h7,hdd,Int.ofNat_lt]
  refine ab (fun hlt=>?_) (fun hge=>?_)
  ·try simp only[tt,seval,h8,h7,hdd]
   refine CallQ.intro (hE c1 i1) ?_ ?_ ?_
   ·decide
   ·simp only[tt,seval,Cur.cs]
   rintro r os ⟨c2,⟨⟨k,o,nn,v,q,m,ks,ss⟩,rfl,he⟩,rfl,i2⟩ hos
   simp only[tt,seval,h8,al,Cur.cs]
   refine kU ?_
   rw[Jk,show l.length+1=(l++[Expr.mk k o nn v q m ks ss]).length by simp]
   try rw[eS i aa]
   exact⟨[(21,.arr 52 (l++[Expr.mk k o nn v q m ks ss]).length ((l++[Expr.mk k o nn v q m ks ss]).flatMap Expr.row) none),(9000,.str c2.cs)],none,ak rfl (ak rfl (ao _)),aq _,⟨i+1,l++[Expr.mk k o nn v q m ks ss],c2,rfl,rfl,by simp [hl],aa,fun x hx=>by
    rcases List.mem_append.1 hx with h|h
    ·exact hal x h
    ·rw[List.mem_singleton.1 h];exact he,i2,rfl,rfl⟩,aB⟩
  ·try simp only[tt,seval,h8,h7]
   refine⟨.c (.sl l.length (l.flatMap Expr.row) none),[c1.cs],⟨c1,⟨l,rfl,aa,hal⟩,rfl,i1⟩,am ?_⟩
   simp only[tt,seval,Cur.cs]
set_option maxHeartbeats 8000000 in
theorem xu (d:Nat) (hd9:d<=50) (hK:∀d2,d=d2+1->∀(n:Nat) (m:Int),m=n->n<=100->∀(c:Cur) (_:0<=c.i),Cl Tryz.prog 219 [.c (.p 9000 0),vi d,vi m] [c.cs] (xq (K5 d2 n))) (hQ:∀d3,d=d3+2->Im d3):Jl d:=by
 intro c h0
 have hdd:True:=trivial
 have hdd2:True:=trivial
 refine ai ac false Tryz.func130 rfl ae ?_
 simp only[Tryz.f130,tt,seval]
 by_cases hd0:(d:Int)<=0
 ·simp only[tt,seval,az hd0]
  refine CallQ.intro (cg c h0 2) ?_ ?_ ?_
  ·decide
  ·simp only[tt,seval,Cur.cs,cu]
  rintro r os ⟨c5,⟨b5,rfl⟩,rfl,i5⟩ hos
  simp only[tt,seval,Cur.cs,cu]
  refine ab (fun hb5=>?_) (fun hb5=>?_)
  ·skip
   refine CallQ.intro (Ao d c5 i5) ?_ ?_ ?_
   ·decide
   ·simp only[tt,seval,Cur.cs]
   rintro r os ⟨c6,⟨⟨k,o,n,v,q,m,ks,ss⟩,rfl,he⟩,rfl,i6⟩ hos
   simp only[tt,seval,al,Cur.cs]
   refine⟨.ag (ar (Expr.mk k o n v q m ks ss).row),[c6.cs],⟨c6,⟨_,rfl,he⟩,rfl,i6⟩,am ?_⟩
   simp only[tt,seval,al,Cur.cs]
  ·skip
   refine CallQ.intro (tQ c5 i5) ?_ ?_ ?_
   ·decide
   ·simp only[tt,seval,Cur.cs]
   rintro r os ⟨c6,⟨⟨k,n,x⟩,rfl,hv⟩,rfl,i6⟩ hos
   simp only[tt,seval,Val.row,Cur.cs,cu]
   refine⟨.ag (ar (Expr.mk 1 0 false ⟨k,n,x⟩ ⟨#[]⟩ ⟨#[]⟩ [] []).row),[c6.cs],⟨c6,⟨_,rfl,DrE.lit hv.1 hv.2.1 hv.2.2 d⟩,rfl,i6⟩,am ?_⟩
   simp only[tt,seval,al,Cur.cs]
 ·simp only[tt,seval,au hd0]
  refine CallQ.intro (cg c h0 5) ?_ ?_ ?_
  ·decide
  ·simp only[tt,seval,Cur.cs,cu]
  rintro r os ⟨c1,⟨b1,rfl⟩,rfl,i1⟩ hos
  simp only[tt,seval,Cur.cs,cu]
  refine ab (fun hb1=>?_) (fun hb1=>?_)
  ·try simp only[tt,seval]
   refine CallQ.intro (cg c1 i1 2) ?_ ?_ ?_
   ·decide
   ·simp only[tt,seval,Cur.cs]
   rintro r os ⟨c5,⟨b5,rfl⟩,rfl,i5⟩ hos
   simp only[tt,seval,Cur.cs]
   refine ab (fun hb5=>?_) (fun hb5=>?_)
   ·skip
    refine CallQ.intro (Ao d c5 i5) ?_ ?_ ?_
    ·decide
    ·simp only[tt,seval,Cur.cs]
    rintro r os ⟨c6,⟨⟨k,o,n,v,q,m,ks,ss⟩,rfl,he⟩,rfl,i6⟩ hos
    simp only[tt,seval,al,Cur.cs]
    refine⟨.ag (ar (Expr.mk k o n v q m ks ss).row),[c6.cs],⟨c6,⟨_,rfl,he⟩,rfl,i6⟩,am ?_⟩
    simp only[tt,seval,al,Cur.cs]
   ·skip
    refine CallQ.intro (tQ c5 i5) ?_ ?_ ?_
    ·decide
    ·simp only[tt,seval,Cur.cs]
    rintro r os ⟨c6,⟨⟨k,n,x⟩,rfl,hv⟩,rfl,i6⟩ hos
    simp only[tt,seval,Val.row,Cur.cs,cu]
    refine⟨.ag (ar (Expr.mk 1 0 false ⟨k,n,x⟩ ⟨#[]⟩ ⟨#[]⟩ [] []).row),[c6.cs],⟨c6,⟨_,rfl,DrE.lit hv.1 hv.2.1 hv.2.2 d⟩,rfl,i6⟩,am ?_⟩
    simp only[tt,seval,al,Cur.cs]
  ·try simp only[tt,seval]
   obtain⟨d2,hd⟩:∃d2,d2+1=d:=⟨d-1,aa⟩
   have hK:=hK d2 hd.symm
   refine CallQ.intro (bj c1 i1 12) ?_ ?_ ?_
   ·decide
   ·simp only[tt,seval,Cur.cs]
   rintro r os ⟨x,c2,rfl,rfl,hx,i2⟩ hos
   simp only[tt,seval,Cur.cs]
   refine ab (fun hx0=>?_) (fun hx0=>?_)
   ·try simp only[tt,seval,Cur.cs,cu,hdd,hdd2]
    refine CallQ.intro (hK (1) (1) (rfl) aa c2 i2) ?_ ?_ ?_
    ·decide
    ·simp only[tt,seval,Cur.cs]
    rintro r os ⟨c3,⟨l,rfl,hll,hal⟩,rfl,ic3⟩ hos
    simp only[tt,seval,Cur.cs,cu]
    refine⟨.ag (ar (Expr.mk 3 15 false ⟨0,0,⟨#[]⟩⟩ ⟨#[]⟩ ⟨#[]⟩ l []).row),[c3.cs],⟨c3,⟨_,rfl,hd▸DrE.kids (by simp [aI,cP,bV,zV,hll]) aa hal⟩,rfl,ic3⟩,am ?_⟩
    simp only[tt,seval,al,Cur.cs]
   ·try simp only[tt,seval,Cur.cs,cu,hdd,hdd2]
    refine ab (fun hx1=>?_) (fun hx1=>?_)
    ·try simp only[tt,seval,Cur.cs,cu,hdd,hdd2]
     refine CallQ.intro (hK (1) (1) (rfl) aa c2 i2) ?_ ?_ ?_
     ·decide
     ·simp only[tt,seval,Cur.cs]
     rintro r os ⟨c3,⟨l,rfl,hll,hal⟩,rfl,ic3⟩ hos
     simp only[tt,seval,Cur.cs,cu]
     refine⟨.ag (ar (Expr.mk 3 16 false ⟨0,0,⟨#[]⟩⟩ ⟨#[]⟩ ⟨#[]⟩ l []).row),[c3.cs],⟨c3,⟨_,rfl,hd▸DrE.kids (by simp [aI,cP,bV,zV,hll]) aa hal⟩,rfl,ic3⟩,am ?_⟩
     simp only[tt,seval,al,Cur.cs]
    ·try simp only[tt,seval,Cur.cs,cu,hdd,hdd2]
     refine ab (fun hx2=>?_) (fun hx2=>?_)
     ·try simp only[tt,seval,Cur.cs,cu,hdd,hdd2]
      refine CallQ.intro (cg c2 i2 2) ?_ ?_ ?_
      ·decide
      ·simp only[tt,seval,Cur.cs]
      rintro r os ⟨c3,⟨bn,rfl⟩,rfl,ic3⟩ hos
      simp only[tt,seval,Cur.cs]
      refine CallQ.intro (hK (1) (1) (rfl) aa c3 ic3) ?_ ?_ ?_
      ·decide
      ·simp only[tt,seval,Cur.cs]
      rintro r os ⟨c4,⟨l,rfl,hll,hal⟩,rfl,ic4⟩ hos
      simp only[tt,seval,Cur.cs,cu]
      refine⟨.ag (ar (Expr.mk 5 0 bn ⟨0,0,⟨#[]⟩⟩ ⟨#[]⟩ ⟨#[]⟩ l []).row),[c4.cs],⟨c4,⟨_,rfl,hd▸DrE.kids (by simp [aI,cP,bV,zV,hll]) aa hal⟩,rfl,ic4⟩,am ?_⟩
      simp only[tt,seval,al,Cur.cs]
     ·try simp only[tt,seval,Cur.cs,cu,hdd,hdd2]
      refine ab (fun hx3=>?_) (fun hx3=>?_)
      ·try simp only[tt,seval,Cur.cs,cu,hdd,hdd2]
       refine CallQ.intro (cg c2 i2 2) ?_ ?_ ?_
       ·decide
       ·simp only[tt,seval,Cur.cs]
       rintro r os ⟨c3,⟨bn,rfl⟩,rfl,ic3⟩ hos
       simp only[tt,seval,Cur.cs]
       refine CallQ.intro (hK (3) (3) (rfl) aa c3 ic3) ?_ ?_ ?_
       ·decide
       ·simp only[tt,seval,Cur.cs]
       rintro r os ⟨c4,⟨l,rfl,hll,hal⟩,rfl,ic4⟩ hos
       simp only[tt,seval,Cur.cs,cu]
       refine⟨.ag (ar (Expr.mk 6 0 bn ⟨0,0,⟨#[]⟩⟩ ⟨#[]⟩ ⟨#[]⟩ l []).row),[c4.cs],⟨c4,⟨_,rfl,hd▸DrE.kids (by simp [aI,cP,bV,zV,hll]) aa hal⟩,rfl,ic4⟩,am ?_⟩
       simp only[tt,seval,al,Cur.cs]
      ·try simp only[tt,seval,Cur.cs,cu,hdd,hdd2]
       refine ab (fun hx4=>?_) (fun hx4=>?_)
       ·try simp only[tt,seval,Cur.cs,cu,hdd,hdd2]
        refine CallQ.intro (cg c2 i2 2) ?_ ?_ ?_
        ·decide
        ·simp only[tt,seval,Cur.cs]
        rintro r os ⟨c3,⟨bn,rfl⟩,rfl,ic3⟩ hos
        simp only[tt,seval,Cur.cs]
        refine CallQ.intro (bj c3 ic3 2) ?_ ?_ ?_
        ·decide
        ·simp only[tt,seval,Cur.cs]
        rintro r os ⟨y,c4,rfl,rfl,hy,i4⟩ hos
        simp only[tt,seval,Cur.cs]
        have hy2:=hy.2 aa
        obtain⟨yn,rfl⟩:∃yn:Nat,y=yn:=⟨y.toNat,aa⟩
        rw[ax (n:=(2:Int)+(yn:Int)) aa aa]
        refine CallQ.intro (hK (2+yn) ((2:Int)+(yn:Int)) aa aa c4 i4) ?_ ?_ ?_
        ·decide
        ·simp only[tt,seval,Cur.cs]
        rintro r os ⟨c7,⟨l,rfl,hll,hal⟩,rfl,ic7⟩ hos
        simp only[tt,seval,Cur.cs,cu]
        have hsh:aI 7 0 bn ⟨0,0,⟨#[]⟩⟩ ⟨#[]⟩ ⟨#[]⟩ l.length 0=true:=by
         have:yn=0∨yn=1:=by omega
         rcases this with rfl|rfl<;>simp [aI,cP,bV,zV,hll]
        refine⟨.ag (ar (Expr.mk 7 0 bn ⟨0,0,⟨#[]⟩⟩ ⟨#[]⟩ ⟨#[]⟩ l []).row),[c7.cs],⟨c7,⟨_,rfl,hd▸DrE.kids hsh aa hal⟩,rfl,ic7⟩,am ?_⟩
        simp only[tt,seval,al,Cur.cs]
       ·try simp only[tt,seval,Cur.cs,cu,hdd,hdd2]
        refine ab (fun hx5=>?_) (fun hx5=>?_)
        ·try simp only[tt,seval,Cur.cs,cu,hdd,hdd2]
         refine ab (fun hg=>?_) (fun hg=>?_)
         ·obtain⟨d3,hd3⟩:∃d3,d2=d3+1:=⟨d2-1,aa⟩
          have hdq:IntKind.i64.wrap ((d:Int)-2)=d3:=by rw[ax aa aa];omega
          refine CallQ.intro (cg c2 i2 2) ?_ ?_ ?_
          ·decide
          ·simp only[tt,seval,Cur.cs]
          rintro r os ⟨c3,⟨bn,rfl⟩,rfl,ic3⟩ hos
          simp only[tt,seval,Cur.cs]
          refine CallQ.intro (hK (1) (1) (rfl) aa c3 ic3) ?_ ?_ ?_
          ·decide
          ·simp only[tt,seval,Cur.cs]
          rintro r os ⟨c4,⟨l,rfl,hll,hal⟩,rfl,ic4⟩ hos
          simp only[tt,seval,Cur.cs]
          simp only[seval,hdq]
          refine CallQ.intro (hQ d3 aa c4 ic4) ?_ ?_ ?_
          ·decide
          ·simp only[tt,seval,Cur.cs]
          rintro r os ⟨c7,⟨⟨qd,qi,qf,qw,qo,ql⟩,rfl,hq⟩,rfl,i7⟩ hos
          simp only[tt,seval,aF,Cur.cs,cu]
          refine⟨.ag (ar (Expr.mk 8 0 bn ⟨0,0,⟨#[]⟩⟩ ⟨#[]⟩ ⟨#[]⟩ l [(Query.mk qd qi qf qw qo ql)]).row),[c7.cs],⟨c7,⟨_,rfl,(show d3+2=d by omega)▸DrE.sub (by simp [aI,cP,bV,zV,hll]) aa (fun x hx=>hd3▸hal x hx) hq⟩,rfl,i7⟩,am ?_⟩
          simp only[tt,seval,al,aF,Cur.cs]
         ·try simp only[tt,seval,Cur.cs,cu,hdd,hdd2]
          refine CallQ.intro (bj c2 i2 14) ?_ ?_ ?_
          ·decide
          ·simp only[tt,seval,Cur.cs]
          rintro r os ⟨y,c4,rfl,rfl,hy,i4⟩ hos
          simp only[tt,seval,Cur.cs]
          have hy2:=hy.2 aa
          rw[ax (n:=(1:Int)+y) aa aa]
          refine CallQ.intro (hK (2) (2) (rfl) aa c4 i4) ?_ ?_ ?_
          ·decide
          ·simp only[tt,seval,Cur.cs]
          rintro r os ⟨c7,⟨l,rfl,hll,hal⟩,rfl,ic7⟩ hos
          simp only[tt,seval,Cur.cs,cu]
          refine⟨.ag (ar (Expr.mk 4 ((1:Int)+y) false ⟨0,0,⟨#[]⟩⟩ ⟨#[]⟩ ⟨#[]⟩ l []).row),[c7.cs],⟨c7,⟨_,rfl,hd▸DrE.kids (by simp [aI,cP,bV,zV,hll];omega) aa hal⟩,rfl,ic7⟩,am ?_⟩
          simp only[tt,seval,al,Cur.cs]
        ·try simp only[tt,seval,Cur.cs,cu,hdd,hdd2]
         refine ab (fun hx6=>?_) (fun hx6=>?_)
         ·try simp only[tt,seval,Cur.cs,cu,hdd,hdd2]
          refine ab (fun hg=>?_) (fun hg=>?_)
          ·obtain⟨d3,hd3⟩:∃d3,d2=d3+1:=⟨d2-1,aa⟩
           have hdq:IntKind.i64.wrap ((d:Int)-2)=d3:=by rw[ax aa aa];omega
           simp only[seval,hdq]
           refine CallQ.intro (hQ d3 aa c2 i2) ?_ ?_ ?_
           ·decide
           ·simp only[tt,seval,Cur.cs]
           rintro r os ⟨c7,⟨⟨qd,qi,qf,qw,qo,ql⟩,rfl,hq⟩,rfl,i7⟩ hos
           simp only[tt,seval,aF,Cur.cs,cu]
           refine⟨.ag (ar (Expr.mk 9 0 false ⟨0,0,⟨#[]⟩⟩ ⟨#[]⟩ ⟨#[]⟩ [] [(Query.mk qd qi qf qw qo ql)]).row),[c7.cs],⟨c7,⟨_,rfl,(show d3+2=d by omega)▸DrE.sub (by simp [aI,cP,bV,zV]) (by simp) (fun x hx=>by cases hx) hq⟩,rfl,i7⟩,am ?_⟩
           simp only[tt,seval,al,aF,Cur.cs]
          ·try simp only[tt,seval,Cur.cs,cu,hdd,hdd2]
           refine CallQ.intro (bj c2 i2 14) ?_ ?_ ?_
           ·decide
           ·simp only[tt,seval,Cur.cs]
           rintro r os ⟨y,c4,rfl,rfl,hy,i4⟩ hos
           simp only[tt,seval,Cur.cs]
           have hy2:=hy.2 aa
           rw[ax (n:=(1:Int)+y) aa aa]
           refine CallQ.intro (hK (2) (2) (rfl) aa c4 i4) ?_ ?_ ?_
           ·decide
           ·simp only[tt,seval,Cur.cs]
           rintro r os ⟨c7,⟨l,rfl,hll,hal⟩,rfl,ic7⟩ hos
           simp only[tt,seval,Cur.cs,cu]
           refine⟨.ag (ar (Expr.mk 4 ((1:Int)+y) false ⟨0,0,⟨#[]⟩⟩ ⟨#[]⟩ ⟨#[]⟩ l []).row),[c7.cs],⟨c7,⟨_,rfl,hd▸DrE.kids (by simp [aI,cP,bV,zV,hll];omega) aa hal⟩,rfl,ic7⟩,am ?_⟩
           simp only[tt,seval,al,Cur.cs]
         ·try simp only[tt,seval,Cur.cs,cu,hdd,hdd2]
          refine CallQ.intro (bj c2 i2 14) ?_ ?_ ?_
          ·decide
          ·simp only[tt,seval,Cur.cs]
          rintro r os ⟨y,c4,rfl,rfl,hy,i4⟩ hos
          simp only[tt,seval,Cur.cs]
          have hy2:=hy.2 aa
          rw[ax (n:=(1:Int)+y) aa aa]
          refine CallQ.intro (hK (2) (2) (rfl) aa c4 i4) ?_ ?_ ?_
          ·decide
          ·simp only[tt,seval,Cur.cs]
          rintro r os ⟨c7,⟨l,rfl,hll,hal⟩,rfl,ic7⟩ hos
          simp only[tt,seval,Cur.cs,cu]
          refine⟨.ag (ar (Expr.mk 4 ((1:Int)+y) false ⟨0,0,⟨#[]⟩⟩ ⟨#[]⟩ ⟨#[]⟩ l []).row),[c7.cs],⟨c7,⟨_,rfl,hd▸DrE.kids (by simp [aI,cP,bV,zV,hll];omega) aa hal⟩,rfl,ic7⟩,am ?_⟩
          simp only[tt,seval,al,Cur.cs]
def ItOk (d:Nat) (x:Item):Prop:=nu x=true/\ij x<=41+200*dN d/\(x.star=false->DrE d x.e)
def SrOk (d i:Nat) (x:Source):Prop:=nv i x=true/\cJ x<=41+x.on.length*(1+200*dN d)/\∀e,e∈x.on->DrE d e
theorem Io:lU (.mk 0 0 false ⟨0,0,⟨#[]⟩⟩ ⟨#[]⟩ ⟨#[]⟩ [] [])=true:=rfl
theorem Gm {s:ByteArray} (h:bK s=true):s.size<=20:=by
 simp only[bK,decide_eq_true_eq] at h;omega
theorem yG {s:ByteArray} (h:d9 s=true):s.size<=20:=by
 simp only[d9,bK,Bool.or_eq_true,decide_eq_true_eq] at h
 rcases h with rfl|h
 ·decide
 ·omega
theorem ItOk.star {d:Nat} {q:ByteArray} (h:d9 q=true):ItOk d (.mk true q (.mk 0 0 false ⟨0,0,⟨#[]⟩⟩ ⟨#[]⟩ ⟨#[]⟩ [] []) ⟨#[]⟩):=by
 refine⟨by simp only[nu,if_true,h,Io];rfl,?_,fun h=>by cases h⟩
 have:=yG h
 have e0:({ data:=#[] }:ByteArray).size=0:=rfl
 rw[jv,cL,aT,bT]
 simp [pw]
 omega
theorem ItOk.ex {d:Nat} {e:Expr} {a:ByteArray} (he:DrE d e) (h:d9 a=true):ItOk d (.mk false ⟨#[]⟩ e a):=by
 refine⟨by simp only[nu,h];rfl,?_,fun _=>he⟩
 have:=yG h
 have:=he.sz
 have e0:({ data:=#[] }:ByteArray).size=0:=rfl
 rw[jv]
 omega
theorem SrOk.mk' {d i:Nat} {t a:ByteArray} {on:List Expr} (ht:bK t=true) (ha:d9 a=true) (h1:on.length<=1) (h0:i=0->on=[]) (ho:∀e,e∈on->DrE d e):SrOk d i (.mk t a on):=by
 refine⟨?_,?_,ho⟩
 ·simp only[nv,ht,ha,Bool.true_and,Bool.and_eq_true,decide_eq_true_eq,Bool.or_eq_true]
  refine⟨h1,?_⟩
  by_cases hi:i=0
  ·right;rw[h0 hi];rfl
  ·exact .inl hi
 ·have:=Gm ht
  have:=yG ha
  have s2:=er (g:=szExpr) fun x hx=>(ho x hx).sz
  rw[dt,aT]
  show _<=41+on.length*(1+200*dN d)
  rw[Nat.mul_add,Nat.mul_one]
  omega
theorem DrQ.mk' {d:Nat} {di:Bool} {it:List Item} {fr:List Source} {wh:List Expr} {od:List SortKey} {li:Int} (h1:1<=it.length) (h1':it.length<=2) (hi:∀x,x∈it->ItOk d x) (h2:1<=fr.length) (h2':fr.length<=2) (hf:∀(i:Nat) (h:i<fr.length),SrOk d i fr[i])
 (h3:wh.length<=1) (hw:∀e,e∈wh->DrE d e) (h4:od.length<=1) (ho:∀k,k∈od->DrE d k.e) (h5 : -1<=li) (h6:li<=9223372036854775807):DrQ d (.mk di it fr wh od li):=by
 have hp:=rV d
 have hon:(fr.flatMap Source.on).length<=1:=by
  match fr,h2,h2',hf with
  | [a],_,_,hf=>
   have:=(hf 0 (by simp)).1
   obtain⟨t,x,on⟩:=a
   simp only[nv,List.getElem_cons_zero,Bool.and_eq_true,decide_eq_true_eq,Bool.or_eq_true] at this
   simp only[List.flatMap_cons,List.flatMap_nil,List.append_nil,Source.on]
   omega
  | [a,b],_,_,hf=>
   have p1:=(hf 0 (by simp)).1
   have p2:=(hf 1 (by simp)).1
   obtain⟨t,x,on⟩:=a
   obtain⟨t',x',on'⟩:=b
   simp only[nv,List.getElem_cons_zero,List.getElem_cons_succ,Bool.and_eq_true,decide_eq_true_eq,Bool.or_eq_true] at p1 p2
   simp only[List.flatMap_cons,List.flatMap_nil,List.append_nil,Source.on,aC]
   obtain⟨_,_,_,q2⟩:=p1
   obtain⟨_,_,q3,_⟩:=p2
   rcases q2 with q2|q2
   ·exact absurd trivial q2
   ·omega
 have hfm:∀x,x∈fr->∃i,SrOk d i x:=fun x hx=>by
  obtain⟨i,hi,rfl⟩:=List.mem_iff_getElem.1 hx
  exact⟨i,hf i hi⟩
 have hex:∀x,x∈exprsQ (.mk di it fr wh od li)->DrE d x:=fun x hx=>by
  simp only[exprsQ,List.mem_append] at hx
  rcases hx with ((hx|hx)|hx)|hx
  ·simp only[aY,List.mem_map,List.mem_filter] at hx
   obtain⟨y,⟨hy,hs⟩,rfl⟩:=hx
   exact (hi y hy).2.2 (by simpa using hs)
  ·obtain⟨y,hy,hx⟩:=List.mem_flatMap.1 hx
   obtain⟨i,hh⟩:=hfm y hy
   exact hh.2.2 x hx
  ·exact hw x hx
  ·obtain⟨y,hy,rfl⟩:=List.mem_map.1 hx
   exact ho y hy
 have hl1:=eM it
 refine⟨?_,h6,hex,?_,?_⟩
 ·unfold hdB
  simp only[Bool.and_eq_true,decide_eq_true_eq]
  exact⟨⟨h1,aa⟩,⟨h2,aa⟩,h3,aa,h5,List.all_eq_true.2 fun x hx=>(hi x hx).1,zY fun j hj=>(hf j hj).1⟩
 ·simp only[exprsQ,aC,List.length_map]
  omega
 ·have b1:=er (g:=ij) (b:=41+200*dN d) fun x hx=>(hi x hx).2.1
  have b3:=er (g:=szExpr) fun x hx=>(hw x hx).sz
  have b4:=er (g:=eo) (b:=200*dN d) (l:=od) fun x hx=>by
   obtain⟨e,de⟩:=x
   rw[gS];exact (ho _ hx).sz
  have b2:(fr.map cJ).sum<=82+(1+200*dN d):=by
   match fr,h2,h2',hf,hon with
   | [a],_,_,hf,hon=>
    have p1:=(hf 0 (by simp)).2.1
    simp only[List.getElem_cons_zero] at p1
    simp only[List.flatMap_cons,List.flatMap_nil,List.append_nil] at hon
    have:=Nat.mul_le_mul_right (1+200*dN d) hon
    simp only[List.map_cons,List.map_nil,List.sum_cons,List.sum_nil]
    omega
   | [a,b],_,_,hf,hon=>
    have p1:=(hf 0 (by simp)).2.1
    have p2:=(hf 1 (by simp)).2.1
    simp only[List.getElem_cons_zero,List.getElem_cons_succ] at p1 p2
    simp only[List.flatMap_cons,List.flatMap_nil,List.append_nil,aC] at hon
    have:=Nat.mul_le_mul_right (1+200*dN d) hon
    rw[Nat.add_mul] at this
    simp only[List.map_cons,List.map_nil,List.sum_cons,List.sum_nil]
    omega
  have m1:=Nat.mul_le_mul_right (41+200*dN d) h1'
  have m3:=Nat.mul_le_mul_right (200*dN d) h3
  have m4:=Nat.mul_le_mul_right (200*dN d) h4
  rw[dC,dB,cM,aT,cB]
  omega
set_option maxHeartbeats 16000000 in
theorem v8 (d:Nat) (hd9:d<=50) (hE:Jl d):Im d:=by
 intro c h0
 refine ai ac false Tryz.func60 rfl ae ?_
 simp only[Tryz.f60,tt,seval]
 refine CallQ.intro (cg c h0 4) ?_ ?_ ?_
 ·decide
 ·simp (maxSteps:=9999999) only[tt,seval,Cur.cs,cu]
 rintro r os ⟨c1,⟨di,rfl⟩,rfl,i1⟩ hos
 simp (maxSteps:=9999999) only[tt,seval,Cur.cs,cu]
 refine CallQ.intro (bj c1 i1 2) ?_ ?_ ?_
 ·decide
 ·simp (maxSteps:=9999999) only[tt,seval,Cur.cs,cu]
 rintro r os ⟨y,c2,rfl,rfl,hy,i2⟩ hos
 simp (maxSteps:=9999999) only[tt,seval,Cur.cs,cu]
 have hy2:=hy.2 aa
 obtain⟨n0,hn0⟩:∃n0:Nat,(1:Int)+y=n0:=⟨((1:Int)+y).toNat,aa⟩
 rw[ax (n:=(1:Int)+y) aa aa,hn0]
 have hn01:1<=n0:=by omega
 have hn02:n0<=2:=by omega
 clear hn0 hy hy2
 refine dLoop.gh [.virtC 5 1 10045 105] ⟨ah,?_⟩
 simp (maxSteps:=9999999) only[tt,seval]
 refine dLoop0.introR (fun f L p=>∃(i:Nat) (l:List Item) (c':Cur) (F:Fp),f 7=vi i/\l.length=i/\i<=n0/\(∀x,x∈l->ItOk d x)/\0<=c'.i/\L=[(9000,.str c'.cs),(5,.str [.v (.bool di),.s 10045 (l).length,.v (.slice none 0 0),.v (.slice none 0 0),.v (.slice none 0 0),.v (.int .i64 (-1))]),(10045,.arr 105 (l).length ((l).flatMap Item.row) F),(4,.str [.v (.bool false),.v (.slice none 0 0),.v (.slice none 0 0),.v (.slice none 0 0),.v (.slice none 0 0),.v (.int .i64 0)])]/\p=none) (fun f _ _=>(n0-eH (f 7)).toNat) [(9000,.str c2.cs),(5,.str [.v (.bool di),.s 10045 (([]:List Item)).length,.v (.slice none 0 0),.v (.slice none 0 0),.v (.slice none 0 0),.v (.int .i64 (-1))]),(10045,.arr 105 (([]:List Item)).length ((([]:List Item)).flatMap Item.row) (some [])),(4,.str [.v (.bool false),.v (.slice none 0 0),.v (.slice none 0 0),.v (.slice none 0 0),.v (.slice none 0 0),.v (.int .i64 0)])] none ⟨ak rfl (ak rfl (ak rfl (ak rfl (ao _)))),aq _,?_⟩ ?_
 ·simp (maxSteps:=9999999) only[tt,seval]
  exact⟨0,[],c2,some [],rfl,rfl,Nat.zero_le _,(fun x h=>by cases h),i2,rfl⟩
 ·rintro g L p ⟨i,l,c3,F,h7,hl,hi,hal,i3,rfl,rfl⟩
  simp (maxSteps:=9999999) only[tt,seval] at h7
  simp (maxSteps:=9999999) only[tt,seval,h7,Int.ofNat_lt]
  refine ab (fun hlt=>?_) (fun hge=>?_)
  ·try simp (maxSteps:=9999999) only[tt,seval,h7,Cur.cs,cu,Val.row]
   refine CallQ.intro (bj c3 i3 5) ?_ ?_ ?_
   ·decide
   ·simp (maxSteps:=9999999) only[tt,seval,h7,Cur.cs,cu,Val.row]
   rintro r os ⟨x,c4,rfl,rfl,hx,i4⟩ hos
   simp (maxSteps:=9999999) only[tt,seval,h7,Cur.cs,cu,Val.row]
   refine ab (fun hx0=>?_) (fun hx0=>ab (fun hx1=>?_) (fun hx1=>?_))
   ·try simp (maxSteps:=9999999) only[tt,seval,h7,Cur.cs,cu,Val.row]
    refine kU ?_
    try simp (maxSteps:=9999999) only[tt,seval,h7,Cur.cs,cu,Val.row]
    try rw[eS i aa]
    refine⟨[.ren 45 10045],ah,ah,?_⟩
    simp (maxSteps:=9999999) only[tt,seval,ol,h7,Cur.cs,cu,Val.row]
    refine⟨[(9000,.str c4.cs),(5,.str [.v (.bool di),.s 10045 (l++[(Item.mk true ⟨#[]⟩ (.mk 0 0 false ⟨0,0,⟨#[]⟩⟩ ⟨#[]⟩ ⟨#[]⟩ [] []) ⟨#[]⟩)]).length,.v (.slice none 0 0),.v (.slice none 0 0),.v (.slice none 0 0),.v (.int .i64 (-1))]),(10045,.arr 105 (l++[(Item.mk true ⟨#[]⟩ (.mk 0 0 false ⟨0,0,⟨#[]⟩⟩ ⟨#[]⟩ ⟨#[]⟩ [] []) ⟨#[]⟩)]).length ((l++[(Item.mk true ⟨#[]⟩ (.mk 0 0 false ⟨0,0,⟨#[]⟩⟩ ⟨#[]⟩ ⟨#[]⟩ [] []) ⟨#[]⟩)]).flatMap Item.row) none),(4,.str [.v (.bool false),.v (.slice none 0 0),.v (.slice none 0 0),.v (.slice none 0 0),.v (.slice none 0 0),.v (.int .i64 0)])],none,by simp only[Item.row_mk,Source.row_mk,SortKey.row_mk,al,Val.row,lc,List.append_nil,List.flatMap_append,List.flatMap_cons,List.flatMap_nil,aC,List.length_cons,List.length_nil,Cur.cs];exact ak rfl (ak rfl (ak rfl (ak rfl (ao _)))),aq _,⟨i+1,l++[(Item.mk true ⟨#[]⟩ (.mk 0 0 false ⟨0,0,⟨#[]⟩⟩ ⟨#[]⟩ ⟨#[]⟩ [] []) ⟨#[]⟩)],c4,none,by simp,by simp [hl],aa,fun x hx=>by
     rcases List.mem_append.1 hx with h|h
     ·exact hal x h
     ·rw[List.mem_singleton.1 h];exact ItOk.star ah,i4,rfl,rfl⟩,aB⟩
   ·try simp (maxSteps:=9999999) only[tt,seval,h7,Cur.cs,cu,Val.row]
    refine dDrawn.intro [53] (.take 0 (.take 2 (.br 1 (.br 3 (.br 4 (.take 5 (.br 6 (.br 7 (.take 8 (.br 9 .done .nobr)) .nobr) .nobr)) .nobr) .nobr) (.br 3 (.br 1 (.br 4 (.take 5 (.br 6 (.br 7 (.take 8 (.br 9 .done .nobr)) .nobr) .nobr)) .nobr) (.br 4 (.take 1 (.take 5 (.br 6 (.br 7 (.take 8 (.br 9 .done .nobr)) .nobr) .nobr))) .nobr)) .nobr)))) ae ?_
    simp (maxSteps:=9999999) only[tt,seval]
    all_goals try simp (maxSteps:=9999999) only[tt,seval,h7,Cur.cs,cu,Val.row]
    all_goals repeat' first|refine dO ?_ ?_|refine bz ?_ ?_
    all_goals
     refine fe [52] ?_
     simp (maxSteps:=9999999) only[tt,seval,h7,Cur.cs,cu,Val.row,srow,List.length_cons,List.length_nil,List.flatMap_cons,List.flatMap_nil,lc]
     refine Call1.intro (eg c4 i4 [⟨#[116]⟩,⟨#[117]⟩] ah) ?_ ?_ ?_
     ·decide
     ·simp (maxSteps:=9999999) only[tt,seval,h7,Cur.cs,cu,Val.row,srow,List.length_cons,List.length_nil,List.flatMap_cons,List.flatMap_nil,lc]
      try decide
     rintro r os ⟨c5,⟨s,hs,rfl⟩,rfl,ic5⟩ hos
     simp (maxSteps:=9999999) only[tt,seval,h7,Cur.cs,cu,Val.row,srow,List.length_cons,List.length_nil,List.flatMap_cons,List.flatMap_nil,lc]
    all_goals repeat' first|refine lO ?_ ?_|refine eO ?_ ?_|refine eP ?_ ?_
    all_goals
     refine kU ?_
    all_goals
     have hs2:d9 s=true:=(by decide:∀s∈[⟨#[116]⟩,⟨#[117]⟩],d9 s=true) s hs
     try simp (maxSteps:=9999999) only[tt,seval,h7,Cur.cs,cu,Val.row]
     try rw[eS i aa]
     refine⟨[.ren 56 10045],ah,ah,?_⟩
     simp (maxSteps:=9999999) only[tt,seval,ol,h7,Cur.cs,cu,Val.row]
     refine⟨[(9000,.str c5.cs),(5,.str [.v (.bool di),.s 10045 (l++[(Item.mk true s (.mk 0 0 false ⟨0,0,⟨#[]⟩⟩ ⟨#[]⟩ ⟨#[]⟩ [] []) ⟨#[]⟩)]).length,.v (.slice none 0 0),.v (.slice none 0 0),.v (.slice none 0 0),.v (.int .i64 (-1))]),(10045,.arr 105 (l++[(Item.mk true s (.mk 0 0 false ⟨0,0,⟨#[]⟩⟩ ⟨#[]⟩ ⟨#[]⟩ [] []) ⟨#[]⟩)]).length ((l++[(Item.mk true s (.mk 0 0 false ⟨0,0,⟨#[]⟩⟩ ⟨#[]⟩ ⟨#[]⟩ [] []) ⟨#[]⟩)]).flatMap Item.row) none),(4,.str [.v (.bool false),.v (.slice none 0 0),.v (.slice none 0 0),.v (.slice none 0 0),.v (.slice none 0 0),.v (.int .i64 0)])],none,by simp only[Item.row_mk,Source.row_mk,SortKey.row_mk,al,Val.row,lc,List.append_nil,List.flatMap_append,List.flatMap_cons,List.flatMap_nil,aC,List.length_cons,List.length_nil,Cur.cs];exact ak rfl (ak rfl (ak rfl (ak rfl (ao _)))),aq _,⟨i+1,l++[(Item.mk true s (.mk 0 0 false ⟨0,0,⟨#[]⟩⟩ ⟨#[]⟩ ⟨#[]⟩ [] []) ⟨#[]⟩)],c5,none,by simp,by simp [hl],aa,fun x hx=>by
      rcases List.mem_append.1 hx with h|h
      ·exact hal x h
      ·rw[List.mem_singleton.1 h];exact ItOk.star hs2,ic5,rfl,rfl⟩,aB⟩
   ·try simp (maxSteps:=9999999) only[tt,seval,h7,Cur.cs,cu,Val.row]
    refine CallQ.intro (hE c4 i4) ?_ ?_ ?_
    ·decide
    ·simp (maxSteps:=9999999) only[tt,seval,h7,Cur.cs,cu,Val.row,al]
    rintro r os ⟨c5,⟨⟨k,o,nn,v,q,m,ks,ss⟩,rfl,he⟩,rfl,i5⟩ hos
    simp (maxSteps:=9999999) only[tt,seval,h7,Cur.cs,cu,Val.row,al]
    refine CallQ.intro (cg c5 i5 2) ?_ ?_ ?_
    ·decide
    ·simp (maxSteps:=9999999) only[tt,seval,h7,Cur.cs,cu,Val.row,al]
    rintro r os ⟨c6,⟨b6,rfl⟩,rfl,i6⟩ hos
    simp (maxSteps:=9999999) only[tt,seval,h7,Cur.cs,cu,Val.row,al]
    refine ab (fun hb6=>?_) (fun hb6=>?_)
    ·try simp (maxSteps:=9999999) only[tt,seval,h7,Cur.cs,cu,Val.row]
     refine CallQ.intro (m8 c6 i6) ?_ ?_ ?_
     ·decide
     ·simp (maxSteps:=9999999) only[tt,seval,h7,Cur.cs,cu,Val.row,al]
     rintro r os ⟨c7,⟨s7,rfl,hs7⟩,rfl,i7⟩ hos
     simp (maxSteps:=9999999) only[tt,seval,h7,Cur.cs,cu,Val.row,al]
     have hs8:d9 s7=true:=by unfold d9;rw[hs7];simp
     refine kU ?_
     try simp (maxSteps:=9999999) only[tt,seval,h7,Cur.cs,cu,Val.row]
     try rw[eS i aa]
     refine⟨[.ren 37 10045],ah,ah,?_⟩
     simp (maxSteps:=9999999) only[tt,seval,ol,h7,Cur.cs,cu,Val.row]
     refine⟨[(9000,.str c7.cs),(5,.str [.v (.bool di),.s 10045 (l++[(Item.mk false ⟨#[]⟩ (Expr.mk k o nn v q m ks ss) s7)]).length,.v (.slice none 0 0),.v (.slice none 0 0),.v (.slice none 0 0),.v (.int .i64 (-1))]),(10045,.arr 105 (l++[(Item.mk false ⟨#[]⟩ (Expr.mk k o nn v q m ks ss) s7)]).length ((l++[(Item.mk false ⟨#[]⟩ (Expr.mk k o nn v q m ks ss) s7)]).flatMap Item.row) none),(4,.str [.v (.bool false),.v (.slice none 0 0),.v (.slice none 0 0),.v (.slice none 0 0),.v (.slice none 0 0),.v (.int .i64 0)])],none,by simp only[Item.row_mk,Source.row_mk,SortKey.row_mk,al,Val.row,lc,List.append_nil,List.flatMap_append,List.flatMap_cons,List.flatMap_nil,aC,List.length_cons,List.length_nil,Cur.cs];exact ak rfl (ak rfl (ak rfl (ak rfl (ao _)))),aq _,⟨i+1,l++[(Item.mk false ⟨#[]⟩ (Expr.mk k o nn v q m ks ss) s7)],c7,none,by simp,by simp [hl],aa,fun x hx=>by
      rcases List.mem_append.1 hx with h|h
      ·exact hal x h
      ·rw[List.mem_singleton.1 h];exact ItOk.ex he hs8,i7,rfl,rfl⟩,aB⟩
    ·try simp (maxSteps:=9999999) only[tt,seval,h7,Cur.cs,cu,Val.row]
     refine kU ?_
     try simp (maxSteps:=9999999) only[tt,seval,h7,Cur.cs,cu,Val.row]
     try rw[eS i aa]
     refine⟨[.ren 37 10045],ah,ah,?_⟩
     simp (maxSteps:=9999999) only[tt,seval,ol,h7,Cur.cs,cu,Val.row]
     refine⟨[(9000,.str c6.cs),(5,.str [.v (.bool di),.s 10045 (l++[(Item.mk false ⟨#[]⟩ (Expr.mk k o nn v q m ks ss) ⟨#[]⟩)]).length,.v (.slice none 0 0),.v (.slice none 0 0),.v (.slice none 0 0),.v (.int .i64 (-1))]),(10045,.arr 105 (l++[(Item.mk false ⟨#[]⟩ (Expr.mk k o nn v q m ks ss) ⟨#[]⟩)]).length ((l++[(Item.mk false ⟨#[]⟩ (Expr.mk k o nn v q m ks ss) ⟨#[]⟩)]).flatMap Item.row) none),(4,.str [.v (.bool false),.v (.slice none 0 0),.v (.slice none 0 0),.v (.slice none 0 0),.v (.slice none 0 0),.v (.int .i64 0)])],none,by simp only[Item.row_mk,Source.row_mk,SortKey.row_mk,al,Val.row,lc,List.append_nil,List.flatMap_append,List.flatMap_cons,List.flatMap_nil,aC,List.length_cons,List.length_nil,Cur.cs];exact ak rfl (ak rfl (ak rfl (ak rfl (ao _)))),aq _,⟨i+1,l++[(Item.mk false ⟨#[]⟩ (Expr.mk k o nn v q m ks ss) ⟨#[]⟩)],c6,none,by simp,by simp [hl],aa,fun x hx=>by
      rcases List.mem_append.1 hx with h|h
      ·exact hal x h
      ·rw[List.mem_singleton.1 h];exact ItOk.ex he ah,i6,rfl,rfl⟩,aB⟩
  ·obtain⟨it,hite⟩:∃it,it=l:=⟨_,rfl⟩
   have hit1:1<=it.length:=by rw[hite];omega
   have hit2:it.length<=2:=by rw[hite];omega
   have bu:∀x,x∈it->ItOk d x:=by rw[hite];exact hal
   rw[<-hite]
   obtain⟨FI,hFI⟩:∃FI,FI=F:=⟨_,rfl⟩
   rw[<-hFI]
   clear hal hFI hite
   try simp (maxSteps:=9999999) only[tt,seval,Cur.cs,cu,Val.row]
   refine CallQ.intro (bj c3 i3 2) ?_ ?_ ?_
   ·decide
   ·simp (maxSteps:=9999999) only[tt,seval,Cur.cs,cu]
   rintro r os ⟨y,c9,rfl,rfl,hy,i9⟩ hos
   simp (maxSteps:=9999999) only[tt,seval,Cur.cs,cu]
   have hy2:=hy.2 aa
   obtain⟨n1,hn0⟩:∃n1:Nat,(1:Int)+y=n1:=⟨((1:Int)+y).toNat,aa⟩
   rw[ax (n:=(1:Int)+y) aa aa,hn0]
   have hn11:1<=n1:=by omega
   have hn12:n1<=2:=by omega
   clear hn0 hy hy2
   refine dLoop.gh [.virtC 5 2 10090 107] ⟨ah,?_⟩
   simp (maxSteps:=9999999) only[tt,seval]
   refine dLoop0.introR (fun f L p=>∃(j:Nat) (l:List Source) (c':Cur) (F:Fp),f 9=vi j/\l.length=j/\j<=n1/\(∀(x:Nat) (hx:x<l.length),SrOk d x l[x])/\0<=c'.i/\L=[(9000,.str c'.cs),(5,.str [.v (.bool di),.s 10045 it.length,.s 10090 (l).length,.v (.slice none 0 0),.v (.slice none 0 0),.v (.int .i64 (-1))]),(10045,.arr 105 it.length (it.flatMap Item.row) FI),(10090,.arr 107 (l).length ((l).flatMap Source.row) F),(4,.str [.v (.bool false),.v (.slice none 0 0),.v (.slice none 0 0),.v (.slice none 0 0),.v (.slice none 0 0),.v (.int .i64 0)])]/\p=none) (fun f _ _=>(n1-eH (f 9)).toNat) [(9000,.str c9.cs),(5,.str [.v (.bool di),.s 10045 it.length,.s 10090 (([]:List Source)).length,.v (.slice none 0 0),.v (.slice none 0 0),.v (.int .i64 (-1))]),(10045,.arr 105 it.length (it.flatMap Item.row) FI),(10090,.arr 107 (([]:List Source)).length ((([]:List Source)).flatMap Source.row) (some [])),(4,.str [.v (.bool false),.v (.slice none 0 0),.v (.slice none 0 0),.v (.slice none 0 0),.v (.slice none 0 0),.v (.int .i64 0)])] none ⟨ak rfl (ak rfl (ak rfl (ak rfl (ak rfl (ao _))))),aq _,?_⟩ ?_
   ·simp (maxSteps:=9999999) only[tt,seval]
    exact⟨0,[],c9,some [],rfl,rfl,Nat.zero_le _,(fun x h=>absurd h (Nat.not_lt_zero _)),i9,rfl⟩
   ·rintro g9 L p ⟨j,l,c3,F,h9,hl,hi2,hal,i3,rfl,rfl⟩
    simp (maxSteps:=9999999) only[tt,seval] at h9
    simp (maxSteps:=9999999) only[tt,seval,h9,Int.ofNat_lt]
    refine ab (fun hlt=>?_) (fun hge=>?_)
    ·try simp (maxSteps:=9999999) only[tt,seval,h9,Cur.cs,cu,Val.row]
     refine fe [67] ?_
     simp (maxSteps:=9999999) only[tt,seval,h9,Cur.cs,cu,Val.row,srow,List.length_cons,List.length_nil,List.flatMap_cons,List.flatMap_nil,lc]
     refine Call1.intro (eg c3 i3 [⟨#[116]⟩,⟨#[117]⟩,⟨#[118]⟩] ah) ?_ ?_ ?_
     ·decide
     ·simp (maxSteps:=9999999) only[tt,seval,h9,Cur.cs,cu,Val.row,srow,List.length_cons,List.length_nil,List.flatMap_cons,List.flatMap_nil,lc]
     rintro r os ⟨c4,⟨tb,htb0,rfl⟩,rfl,ic4⟩ hos
     simp (maxSteps:=9999999) only[tt,seval,h9,Cur.cs,cu,Val.row,srow,List.length_cons,List.length_nil,List.flatMap_cons,List.flatMap_nil,lc]
     have htb:bK tb=true:=(by decide:∀s∈[⟨#[116]⟩,⟨#[117]⟩,⟨#[118]⟩],bK s=true) tb htb0
     refine CallQ.intro (cg c4 ic4 3) ?_ ?_ ?_
     ·decide
     ·simp (maxSteps:=9999999) only[tt,seval,h9,Cur.cs,cu,Val.row]
     rintro r os ⟨c5,⟨b5,rfl⟩,rfl,i5⟩ hos
     simp (maxSteps:=9999999) only[tt,seval,h9,Cur.cs,cu,Val.row]
     refine ab (fun hb=>?_) (fun hb=>?_)
     case' refine_1=>
      try simp (maxSteps:=9999999) only[tt,seval,h9,Cur.cs,cu,Val.row]
      refine CallQ.intro (m8 c5 i5) ?_ ?_ ?_
      ·decide
      ·simp (maxSteps:=9999999) only[tt,seval,h9,Cur.cs,cu,Val.row]
      rintro r os ⟨c6,⟨s6,rfl,hs6⟩,rfl,i6⟩ hos
      simp (maxSteps:=9999999) only[tt,seval,h9,Cur.cs,cu,Val.row]
      obtain⟨sa,hsa0⟩:∃sa:ByteArray,sa=s6:=⟨_,rfl⟩
      have hsa2:d9 sa=true:=by unfold d9;rw[hsa0,hs6];simp
     case' refine_2=>
      try simp (maxSteps:=9999999) only[tt,seval,h9,Cur.cs,cu,Val.row]
      obtain⟨sa,hsa0⟩:∃sa:ByteArray,sa=⟨#[]⟩:=⟨_,rfl⟩
      have hsa2:d9 sa=true:=by rw[hsa0];decide
      generalize hc0:c5=c6 at *
      have i6:=i5
     all_goals
      by_cases hj:(0:Int)<(j:Int)
      case' pos=>
       simp (maxSteps:=9999999) only[tt,seval,az hj,h9,Cur.cs,cu,Val.row]
       refine CallQ.intro (cg c6 i6 2) ?_ ?_ ?_
       ·decide
       ·simp (maxSteps:=9999999) only[tt,seval,h9,Cur.cs,cu,Val.row]
       rintro r os ⟨c8,⟨b8,rfl⟩,rfl,i8⟩ hos
       simp (maxSteps:=9999999) only[tt,seval,h9,Cur.cs,cu,Val.row]
       refine ab (fun hb=>?_) (fun hb=>?_)
       case' refine_1=>
        try simp (maxSteps:=9999999) only[tt,seval,h9,Cur.cs,cu,Val.row]
        refine CallQ.intro (hE c8 i8) ?_ ?_ ?_
        ·decide
        ·simp (maxSteps:=9999999) only[tt,seval,h9,Cur.cs,cu,Val.row,al]
        rintro r os ⟨c9,⟨⟨k,o,nn,v,q,m,ks,ss⟩,rfl,he⟩,rfl,i9⟩ hos
        simp (maxSteps:=9999999) only[tt,seval,h9,Cur.cs,cu,Val.row,al]
        obtain⟨on,hon⟩:∃on:List Expr,on=[(Expr.mk k o nn v q m ks ss)]:=⟨_,rfl⟩
        have h8:on.length<=1/\((j:Nat)=0->on=[])/\∀e,e∈on->DrE d e:=by rw[hon];exact⟨by simp,fun h0=>absurd h0 aa,fun e h=>by rw[List.mem_singleton.1 h];exact he⟩
       case' refine_2=>
        try simp (maxSteps:=9999999) only[tt,seval,h9,Cur.cs,cu,Val.row]
        obtain⟨on,hon⟩:∃on:List Expr,on=[]:=⟨_,rfl⟩
        have h8:on.length<=1/\((j:Nat)=0->on=[])/\∀e,e∈on->DrE d e:=by rw[hon];exact⟨by simp,fun _=>rfl,fun e h=>by cases h⟩
        generalize hc0:c8=c9 at *
        have i9:=i8
      case' neg=>
       simp (maxSteps:=9999999) only[tt,seval,au hj,h9,Cur.cs,cu,Val.row]
       obtain⟨on,hon⟩:∃on:List Expr,on=[]:=⟨_,rfl⟩
       have h8:on.length<=1/\((j:Nat)=0->on=[])/\∀e,e∈on->DrE d e:=by rw[hon];exact⟨by simp,fun _=>rfl,fun e h=>by cases h⟩
       generalize hc0:c6=c9 at *
       have i9:=i6
      all_goals
       refine kU ?_
       try simp (maxSteps:=9999999) only[tt,seval,h9,Cur.cs,cu,Val.row]
       try rw[ax (n:=(j:Int)+1) aa aa]
       refine⟨[.ren 90 10090],ah,ah,?_⟩
       simp (maxSteps:=9999999) only[tt,seval,ol,h9,Cur.cs,cu,Val.row]
       refine⟨[(9000,.str c9.cs),(5,.str [.v (.bool di),.s 10045 it.length,.s 10090 (l++[(Source.mk tb sa on)]).length,.v (.slice none 0 0),.v (.slice none 0 0),.v (.int .i64 (-1))]),(10045,.arr 105 it.length (it.flatMap Item.row) FI),(10090,.arr 107 (l++[(Source.mk tb sa on)]).length ((l++[(Source.mk tb sa on)]).flatMap Source.row) none),(4,.str [.v (.bool false),.v (.slice none 0 0),.v (.slice none 0 0),.v (.slice none 0 0),.v (.slice none 0 0),.v (.int .i64 0)])],none,by simp only[Item.row_mk,Source.row_mk,SortKey.row_mk,al,Val.row,lc,List.append_nil,List.flatMap_append,List.flatMap_cons,List.flatMap_nil,aC,List.length_cons,List.length_nil,Cur.cs,hon,hsa0];exact ak rfl (ak rfl (ak rfl (ak rfl (ak rfl (ao _))))),aq _,⟨j+1,l++[(Source.mk tb sa on)],c9,none,by simp,by simp [hl],aa,fun x hx=>by
        rcases Nat.lt_or_ge x l.length with h|h
        ·rw[List.getElem_append_left h];exact hal x h
        ·have e:x=l.length:=by simp at hx;omega
         subst e
         rw[List.getElem_append_right (Nat.le_refl _)];simp only[Nat.sub_self,List.getElem_cons_zero];exact SrOk.mk' htb hsa2 h8.1 (fun h0=>h8.2.1 aa) h8.2.2,i9,rfl,rfl⟩,aB⟩
    ·have hfr1:1<=l.length:=by omega
     have hfr2:l.length<=2:=by omega
     have hfr:=hal
     obtain⟨fr,hfe⟩:∃fr,fr=l:=⟨_,rfl⟩
     rw[<-hfe] at hfr1 hfr2 ⊢
     subst hfe
     try simp (maxSteps:=9999999) only[tt,seval,Cur.cs,cu,Val.row]
     refine CallQ.intro (cg c3 i3 2) ?_ ?_ ?_
     ·decide
     ·simp (maxSteps:=9999999) only[tt,seval,Cur.cs,cu,Val.row]
     rintro r os ⟨c4,⟨b4,rfl⟩,rfl,i4⟩ hos
     simp (maxSteps:=9999999) only[tt,seval,Cur.cs,cu,Val.row]
     refine ab (fun hb=>?_) (fun hb=>?_)
     case' refine_1=>
      try simp (maxSteps:=9999999) only[tt,seval,Cur.cs,cu,Val.row]
      refine CallQ.intro (hE c4 i4) ?_ ?_ ?_
      ·decide
      ·simp (maxSteps:=9999999) only[tt,seval,Cur.cs,cu,Val.row,al]
      rintro r os ⟨c5,⟨⟨k,o,nn,v,q,m,ks,ss⟩,rfl,he⟩,rfl,i5⟩ hos
      simp (maxSteps:=9999999) only[tt,seval,Cur.cs,cu,Val.row,al]
      obtain⟨wh,hwh⟩:∃wh:List Expr,wh=[(Expr.mk k o nn v q m ks ss)]:=⟨_,rfl⟩
      have hw1:wh.length<=1:=by rw[hwh];simp
      have hw:∀e,e∈wh->DrE d e:=by rw[hwh];exact fun e h=>by rw[List.mem_singleton.1 h];exact he
     case' refine_2=>
      try simp (maxSteps:=9999999) only[tt,seval,Cur.cs,cu,Val.row]
      obtain⟨wh,hwh⟩:∃wh:List Expr,wh=[]:=⟨_,rfl⟩
      have hw1:wh.length<=1:=by rw[hwh];simp
      have hw:∀e,e∈wh->DrE d e:=by rw[hwh];exact fun e h=>by cases h
      generalize hc0:c4=c5 at *
      have i5:=i4
     all_goals
      refine CallQ.intro (cg c5 i5 3) ?_ ?_ ?_
      ·decide
      ·simp (maxSteps:=9999999) only[tt,seval,Cur.cs,cu,Val.row]
      rintro r os ⟨cc,⟨bc9,rfl⟩,rfl,ic9⟩ hos
      simp (maxSteps:=9999999) only[tt,seval,Cur.cs,cu,Val.row]
      refine ab (fun hb=>?_) (fun hb=>?_)
      case' refine_1=>
       try simp (maxSteps:=9999999) only[tt,seval,Cur.cs,cu,Val.row]
       refine dDrawn.intro [105,107] (.take 0 (.take 2 (.take 3 (.take 5 (.br 1 (.br 4 (.br 6 (.take 7 (.br 8 (.br 9 (.take 10 (.br 11 .done .nobr)) .nobr) .nobr)) .nobr) .nobr) (.br 4 (.br 1 (.br 6 (.take 7 (.br 8 (.br 9 (.take 10 (.br 11 .done .nobr)) .nobr) .nobr)) .nobr) (.br 6 (.take 1 (.take 7 (.br 8 (.br 9 (.take 10 (.br 11 .done .nobr)) .nobr) .nobr))) .nobr)) .nobr)))))) ae ?_
       simp (maxSteps:=9999999) only[tt,seval]
       all_goals try simp (maxSteps:=9999999) only[tt,seval,Cur.cs,cu,Val.row]
       all_goals repeat' first|refine dO ?_ ?_|refine bz ?_ ?_
       all_goals
        refine CallQ.intro (hE cc ic9) ?_ ?_ ?_
        ·decide
        ·simp (maxSteps:=9999999) only[tt,seval,Cur.cs,cu,Val.row,al]
         try decide
        rintro r os ⟨cd,⟨⟨k2,o2,nn2,v2,q2,m2,ks2,ss2⟩,rfl,he2⟩,rfl,id9⟩ hos
        simp (maxSteps:=9999999) only[tt,seval,Cur.cs,cu,Val.row,al]
       all_goals repeat' first|refine dO ?_ ?_|refine bz ?_ ?_
       all_goals
        refine CallQ.intro (cg cd id9 2) ?_ ?_ ?_
        ·decide
        ·simp (maxSteps:=9999999) only[tt,seval,Cur.cs,cu,Val.row]
         try decide
        rintro r os ⟨ce,⟨de,rfl⟩,rfl,ie⟩ hos
        simp (maxSteps:=9999999) only[tt,seval,Cur.cs,cu,Val.row]
       all_goals repeat' first|refine lO ?_ ?_|refine eO ?_ ?_|refine eP ?_ ?_
       all_goals
        refine kU ?_
       all_goals
        try simp (maxSteps:=9999999) only[tt,seval,Cur.cs,cu,Val.row]
        obtain⟨od,hod⟩:∃od:List SortKey,od=[.mk (Expr.mk k2 o2 nn2 v2 q2 m2 ks2 ss2) de]:=⟨_,rfl⟩
        have ho1:od.length<=1:=by rw[hod];simp
        have ho:∀k,k∈od->DrE d k.e:=by rw[hod];exact fun e h=>by rw[List.mem_singleton.1 h];exact he2
      case' refine_2=>
       try simp (maxSteps:=9999999) only[tt,seval,Cur.cs,cu,Val.row]
       obtain⟨od,hod⟩:∃od:List SortKey,od=[]:=⟨_,rfl⟩
       have ho1:od.length<=1:=by rw[hod];simp
       have ho:∀k,k∈od->DrE d k.e:=by rw[hod];exact fun e h=>by cases h
       generalize hc0:cc=ce at *
       have ie:=ic9
      all_goals
       refine CallQ.intro (cg ce ie 4) ?_ ?_ ?_
       ·decide
       ·simp (maxSteps:=9999999) only[tt,seval,Cur.cs,cu,Val.row]
       rintro r os ⟨ca,⟨ba,rfl⟩,rfl,ia⟩ hos
       simp (maxSteps:=9999999) only[tt,seval,Cur.cs,cu,Val.row]
       refine ab (fun hb=>?_) (fun hb=>?_)
       case' refine_1=>
        try simp (maxSteps:=9999999) only[tt,seval,Cur.cs,cu,Val.row]
        refine fe [115] ?_
        simp (maxSteps:=9999999) only[tt,seval,Cur.cs,cu,Val.row,irow,List.length_cons,List.length_nil,List.flatMap_cons,List.flatMap_nil,lc]
        refine Call1.intro (pU ca ia [0,1,2,9223372036854775807] ah) ?_ ?_ ?_
        ·decide
        ·simp (maxSteps:=9999999) only[tt,seval,Cur.cs,cu,Val.row,irow,List.length_cons,List.length_nil,List.flatMap_cons,List.flatMap_nil,lc]
        rintro r os ⟨cb,⟨l7,hl7,rfl⟩,rfl,ib⟩ hos
        simp (maxSteps:=9999999) only[tt,seval,Cur.cs,cu,Val.row,irow,List.length_cons,List.length_nil,List.flatMap_cons,List.flatMap_nil,lc]
        obtain⟨lm,hlm⟩:∃lm:Int,lm=l7:=⟨_,rfl⟩
        have hl2 : -1<=lm/\lm<=9223372036854775807:=hlm▸(by decide:∀s∈([0,1,2,9223372036854775807]:List Int),-1<=s/\s<=9223372036854775807) l7 hl7
       case' refine_2=>
        try simp (maxSteps:=9999999) only[tt,seval,Cur.cs,cu,Val.row]
        obtain⟨lm,hlm⟩:∃lm:Int,lm = -1:=⟨_,rfl⟩
        have hl2 : -1<=lm/\lm<=9223372036854775807:=by rw[hlm];decide
        generalize hc0:ca=cb at *
        have ib:=ia
       all_goals
        refine⟨.ag (ar (Query.mk di it fr wh od lm).row),[cb.cs],⟨cb,⟨_,rfl,DrQ.mk' hit1 hit2 bu hfr1 hfr2 hfr hw1 hw ho1 ho hl2.1 hl2.2⟩,rfl,ib⟩,am ?_⟩
        simp (maxSteps:=9999999) only[tt,seval,hwh,hod,hlm,aF,Item.row_mk,Source.row_mk,SortKey.row_mk,al,Val.row,lc,List.append_nil,List.flatMap_append,List.flatMap_cons,List.flatMap_nil,aC,List.length_cons,List.length_nil,Cur.cs,cu,Val.row]
theorem Bz (d:Nat):d<=50->Jl d/\Im d:=by
 induction d using Nat.strongRecOn with
 |_ d ih=>
  intro h
  have hx:Jl d:=xu d h (fun d2 e n m hm hn c h0=>by
   subst e hm
   exact xt d2 aa (ih d2 aa aa).1 n hn c h0) fun d3 e=>(ih d3 aa aa).2
  exact⟨hx,v8 d h hx⟩
end Go.Proofs.YtbodcedhmccenaaGreatDoor
