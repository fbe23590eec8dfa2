/-
  Marks, and what holds them.
  Conditions: none.
-/
import Derived.Test.YteffjmaadkkmeaaGreatDoorQSB
set_option linter.unusedVariables false
set_option linter.unusedSimpArgs false
set_option linter.unusedSectionVars false
set_option maxRecDepth 8000
namespace Go.Proofs.YteffjmaadkkmeaaGreatDoor
open Go Go.Dv
open Go.Vc (D eb ec dK bN)
open Go.Cv
open Go.Vc (CellF ValsF aV)
def jK:Nat→Int→ByteArray→ByteArray
 |0,_,s=>s
 |n+1,k,s=>if 0<k then jK n (k.tdiv 10) (⟨#[UInt8.ofNat (48+k.tmod 10).toNat]⟩++s) else s
def bw (k:Int):ByteArray:=if k≤0 then ⟨#[109,48]⟩ else ⟨#[109]⟩++jK k.toNat k ⟨#[]⟩
theorem pq:∀(n:Nat) (k:Int) (s:ByteArray),0≤k→((jK n k s).size:Int)≤s.size+k
 |0,k,s,h=>by simp [jK];omega
 |n+1,k,s,h=>by
  rw[jK]
  split
  ·rename_i hk
   have hq0:0≤k.tdiv 10:=Int.tdiv_nonneg h (by decide)
   have hq1:k.tdiv 10<k:=by rw[Int.tdiv_eq_ediv_of_nonneg h];omega
   have:=pq n (k.tdiv 10) (⟨#[UInt8.ofNat (48+k.tmod 10).toNat]⟩++s) hq0
   have hz:(⟨#[UInt8.ofNat (48+k.tmod 10).toNat]⟩:ByteArray).size=1:=rfl
   rw[ByteArray.size_append,hz] at this
   omega
  ·omega
theorem dF {k:Int} (h1:k≤4611686018427387904):Go.Vc.okV (.string (bw k)):=by
 show (bw k).size≤9223372036854775807
 rw[bw]
 split
 ·exact (by decide:(⟨#[109,48]⟩:ByteArray).size≤9223372036854775807)
 ·have:=pq k.toNat k ⟨#[]⟩ (by omega)
  have hz:(⟨#[109]⟩:ByteArray).size=1:=rfl
  have hz0:(⟨#[]⟩:ByteArray).size=0:=rfl
  rw[ByteArray.size_append,hz]
  omega
theorem cI (k:Int) (h1:k≤4611686018427387904):Cl Tryz.prog 48 [vi k] [] fun r _=>r=vs (bw k):=by
 refine ab aa false Tryz.func48 rfl (by kernel_rfl) ?_
 simp only[Tryz.f48,tt,seval]
 refine And.intro (fun h=>?_) (fun h=>?_)
 ·exact⟨_,_,wJ (by rw[bw,if_pos h]),ac rfl⟩
 ·refine dLoop.intro (fun f L p=>∃(j:Int) (s:ByteArray) (N:Nat),f 0=vi j∧f 3=vs s∧0≤j∧j≤N∧s.size+j≤k∧jK N j s=jK k.toNat k ⟨#[]⟩∧L=[]∧p=none) (fun f _ _=>(bn (f 0)).toNat) [] none ⟨SubO.nil _,PoSub.none _,?_⟩ ?_
  ·simp only[tt,seval]
   refine⟨k,⟨#[]⟩,k.toNat,rfl,rfl,by omega,by omega,?_,rfl⟩
   show ((0:Nat):Int)+k≤k
   omega
  ·rintro g L p ⟨j,s,N,h0,h3,hj,hN,hsz,heq,rfl,rfl⟩
   simp only[tt,seval] at h0 h3
   simp only[tt,seval,h0,h3]
   refine And.intro (fun hlt=>?_) (fun hge=>?_)
   ·have hr0:0≤j.tmod 10:=Int.tmod_nonneg _ hj
    have hr1:j.tmod 10<10:=Int.tmod_lt_of_pos _ (by decide)
    have hval:IntKind.u8.wrap (IntKind.i64.wrap (48+j.tmod 10))=((UInt8.ofNat (48+j.tmod 10).toNat).toNat:Int):=by
     rw[ak (by omega) (by omega),IntWalk.u8_in _ (by omega),UInt8.toNat_ofNat'];omega
    refine⟨by kernel_rfl,by decide,[UInt8.ofNat (48+j.tmod 10).toNat],rfl,by rw[hval];rfl,?_⟩
    simp only[tt,seval,h0,h3]
    have hz:(⟨#[UInt8.ofNat (48+j.tmod 10).toNat]⟩:ByteArray).size=1:=rfl
    have hz':(⟨[UInt8.ofNat (48+j.tmod 10).toNat].toArray⟩:ByteArray).size=1:=rfl
    rw[kH (by rw[hz'];omega)]
    simp only[tt,seval,h0,h3]
    have hq0:0≤j.tdiv 10:=Int.tdiv_nonneg hj (by decide)
    have hq1:j.tdiv 10<j:=by rw[Int.tdiv_eq_ediv_of_nonneg hj];omega
    rw[ak (n:=j.tdiv 10) (by omega) (by omega)]
    have hsz2:((⟨#[UInt8.ofNat (48+j.tmod 10).toNat]⟩:ByteArray)++s).size=1+s.size:=by rw[ByteArray.size_append,hz]
    cases N with
    |zero=>exact absurd hlt (by omega)
    |succ N=>
    rw[jK,if_pos hlt] at heq
    exact⟨[],none,SubO.nil _,PoSub.none _,⟨_,_,N,rfl,rfl,hq0,by omega,by rw[hsz2];omega,heq,rfl,rfl⟩,by simp only[bn];omega⟩
   ·have:j=0:=by omega
    subst this
    have heq':s=jK k.toNat k ⟨#[]⟩:=by rw[←heq];cases N<;>simp [jK]
    have hz:(⟨#[109]⟩:ByteArray).size=1:=rfl
    rw[kH (by rw[hz];omega)]
    simp only[tt,seval,h0,h3]
    exact⟨_,_,wJ (by rw[bw,if_neg h,heq']),ac rfl⟩
theorem cJ (k:Int) (w:World) (hg:GlW w (fun _=>False)) (h1:k≤4611686018427387904):aV Tryz.prog 48=true∧Calls Tryz.prog 48 #[.int .i64 k] w fun e w'=>∃v,e = .returned v∧v = .string (bw k)∧Gr w w':=by
 obtain⟨h0,h⟩:=Go.Cv.Cl.at (cI k h1) rfl (vs:=[.int .i64 k]) (w:=w) ⟨⟨rfl,trivial⟩,trivial⟩ hg
 refine⟨h0,h.mono ?_⟩
 rintro e w' ⟨v,he,r,rfl,hgr,hres⟩
 exact⟨v,he,hres.val,hgr⟩
section
variable {α:Type} (f:Int→α→α) (c:α→Nat)
def aq:List α→Nat
 | []=>0
 |e::es=>c e+aq es
def d5:Int→List α→List α
 |_,[]=>[]
 |k,e::es=>f k e::d5 (k+c e) es
theorem aJ:∀(es fs:List α),aq c (es++fs)=aq c es+aq c fs
 | [],fs=>by simp [aq]
 |e::es,fs=>by simp [aq,aJ es fs];omega
theorem am:∀(k:Int) (es:List α),(d5 f c k es).length=es.length
 |_,[]=>rfl
 |k,e::es=>by simp [d5,am (k+c e) es]
theorem vY:∀(k:Int) (es:List α) (e:α),d5 f c k (es++[e])=d5 f c k es++[f (k+aq c es) e]
 |k,[],e=>by simp [d5,aq]
 |k,x::es,e=>by simp [d5,aq,vY (k+c x) es e];congr 1;omega
theorem bY (es:List α) (i:Nat):aq c (es.take i)≤aq c es:=by
 have:=aJ c (es.take i) (es.drop i)
 rw[List.take_append_drop] at this;omega
theorem bC (es:List α) (i:Nat) (h:i<es.length):aq c (es.take (i+1))=aq c (es.take i)+c es[i]:=by
 rw[List.take_add_one,List.getElem?_eq_getElem h,aJ];simp [aq]
theorem dy (k:Int) (es:List α) (i:Nat) (h:i<es.length):d5 f c k (es.take (i+1))=d5 f c k (es.take i)++[f (k+aq c (es.take i)) es[i]]:=by
 rw[List.take_add_one,List.getElem?_eq_getElem h];exact vY f c _ _ _
theorem jp:∀(k:Int) (es:List α) (i:Nat) (h:i<es.length),(d5 f c k es)[i]?=some (f (k+aq c (es.take i)) es[i])
 |_,[],i,h=>by simp at h
 |k,e::es,0,h=>by simp [d5,aq]
 |k,e::es,i+1,h=>by
  simp only[d5,List.getElem?_cons_succ,List.take_succ_cons,aq,List.getElem_cons_succ]
  rw[jp (k+c e) es i (by simpa using h)]
  congr 2;omega
end
def rF {α:Type} (fn:FuncId) (row:α→List D) (f:Int→α→α) (c:α→Nat) (es:List α):Prop:=
 ∀(w:World) (k:Int) (v:Value) (F:List Nat),CellF w (.sl es.length (es.flatMap row)) v F→F.Nodup→OwnL w F→GlW w (fun _=>False)→(∀t∈dv,t.1 ∉ F)→0≤k→k+aq c es≤4611686018427387904 →
  aV Tryz.prog fn=true∧Calls Tryz.prog fn #[v,.int .i64 k] w fun e w'=>∃r,e = .returned r∧r = .int .i64 (k+aq c es)∧CellF w' (.sl es.length ((d5 f c k es).flatMap row)) v F∧OwnL w' F∧ChL F w w'
mutual
def ae:Expr→Nat
 |.mk kind op not val qual name kids sub=>8+ep kids+gq sub
def ay:Item→Nat
 |.mk star qual (.mk e_kind e_op e_not e_val e_qual e_name e_kids e_sub) as_=>11+ep e_kids+gq e_sub
def ap:Source→Nat
 |.mk table as_ on=>2+ep on
def au:SortKey→Nat
 |.mk (.mk e_kind e_op e_not e_val e_qual e_name e_kids e_sub) desc=>9+ep e_kids+gq e_sub
def aG:Query→Nat
 |.mk distinct items from_ where_ order limit=>2+iv items+fW from_+ep where_+gJ order
def ep:List Expr→Nat
 | []=>0
 |e::es=>ae e+ep es
def iv:List Item→Nat
 | []=>0
 |e::es=>ay e+iv es
def gq:List Query→Nat
 | []=>0
 |e::es=>aG e+gq es
def gJ:List SortKey→Nat
 | []=>0
 |e::es=>au e+gJ es
def fW:List Source→Nat
 | []=>0
 |e::es=>ap e+fW es
end
theorem dG:∀es,ep es=aq ae es
 | []=>by simp [ep,aq]
 |e::es=>by simp [ep,aq,dG es]
theorem dH:∀es,iv es=aq ay es
 | []=>by simp [iv,aq]
 |e::es=>by simp [iv,aq,dH es]
theorem de:∀es,gq es=aq aG es
 | []=>by simp [gq,aq]
 |e::es=>by simp [gq,aq,de es]
theorem cA:∀es,gJ es=aq au es
 | []=>by simp [gJ,aq]
 |e::es=>by simp [gJ,aq,cA es]
theorem cP:∀es,fW es=aq ap es
 | []=>by simp [fW,aq]
 |e::es=>by simp [fW,aq,cP es]
mutual
def bV:Int→Expr→Expr
 |q,.mk kind op not val qual name kids sub=>.mk (q) (q+1) (decide ((q+1+1).tmod 3=0)) ⟨q+1+1+1,q+1+1+1+1,bw (q+1+1+1+1+1)⟩ (bw (q+1+1+1+1+1+1)) (bw (q+1+1+1+1+1+1+1)) (iw (q+1+1+1+1+1+1+1+1) kids) (j4 (q+1+1+1+1+1+1+1+1+(ep kids:Int)) sub)
def ei:Int→Item→Item
 |q,.mk star qual (.mk e_kind e_op e_not e_val e_qual e_name e_kids e_sub) as_=>.mk (decide ((q).tmod 3=0)) (bw (q+1)) (.mk (q+1+1) (q+1+1+1) (decide ((q+1+1+1+1).tmod 3=0)) ⟨q+1+1+1+1+1,q+1+1+1+1+1+1,bw (q+1+1+1+1+1+1+1)⟩ (bw (q+1+1+1+1+1+1+1+1)) (bw (q+1+1+1+1+1+1+1+1+1)) (iw (q+1+1+1+1+1+1+1+1+1+1) e_kids) (j4 (q+1+1+1+1+1+1+1+1+1+1+(ep e_kids:Int)) e_sub)) (bw (q+1+1+1+1+1+1+1+1+1+1+(ep e_kids:Int)+(gq e_sub:Int)))
def cB:Int→Source→Source
 |q,.mk table as_ on=>.mk (bw (q)) (bw (q+1)) (iw (q+1+1) on)
def bR:Int→SortKey→SortKey
 |q,.mk (.mk e_kind e_op e_not e_val e_qual e_name e_kids e_sub) desc=>.mk (.mk (q) (q+1) (decide ((q+1+1).tmod 3=0)) ⟨q+1+1+1,q+1+1+1+1,bw (q+1+1+1+1+1)⟩ (bw (q+1+1+1+1+1+1)) (bw (q+1+1+1+1+1+1+1)) (iw (q+1+1+1+1+1+1+1+1) e_kids) (j4 (q+1+1+1+1+1+1+1+1+(ep e_kids:Int)) e_sub)) (decide ((q+1+1+1+1+1+1+1+1+(ep e_kids:Int)+(gq e_sub:Int)).tmod 3=0))
def d7:Int→Query→Query
 |q,.mk distinct items from_ where_ order limit=>.mk (decide ((q).tmod 3=0)) (ot (q+1) items) (kh (q+1+(iv items:Int)) from_) (iw (q+1+(iv items:Int)+(fW from_:Int)) where_) (j5 (q+1+(iv items:Int)+(fW from_:Int)+(ep where_:Int)) order) (q+1+(iv items:Int)+(fW from_:Int)+(ep where_:Int)+(gJ order:Int))
def iw:Int→List Expr→List Expr
 |_,[]=>[]
 |q,e::es=>bV q e::iw (q+ae e) es
def ot:Int→List Item→List Item
 |_,[]=>[]
 |q,e::es=>ei q e::ot (q+ay e) es
def j4:Int→List Query→List Query
 |_,[]=>[]
 |q,e::es=>d7 q e::j4 (q+aG e) es
def j5:Int→List SortKey→List SortKey
 |_,[]=>[]
 |q,e::es=>bR q e::j5 (q+au e) es
def kh:Int→List Source→List Source
 |_,[]=>[]
 |q,e::es=>cB q e::kh (q+ap e) es
end
theorem dI:∀q es,iw q es=d5 bV ae q es
 |q,[]=>by simp [iw,d5]
 |q,e::es=>by simp [iw,d5,dI _ es]
theorem dJ:∀q es,ot q es=d5 ei ay q es
 |q,[]=>by simp [ot,d5]
 |q,e::es=>by simp [ot,d5,dJ _ es]
theorem df:∀q es,j4 q es=d5 d7 aG q es
 |q,[]=>by simp [j4,d5]
 |q,e::es=>by simp [j4,d5,df _ es]
theorem cC:∀q es,j5 q es=d5 bR au q es
 |q,[]=>by simp [j5,d5]
 |q,e::es=>by simp [j5,d5,cC _ es]
theorem cQ:∀q es,kh q es=d5 cB ap q es
 |q,[]=>by simp [kh,d5]
 |q,e::es=>by simp [kh,d5,cQ _ es]
theorem aU (kind:Int) (op:Int) (not:Bool) (val:Val) (qual:ByteArray) (name:ByteArray) (kids:List Expr) (sub:List Query):ae (.mk kind op not val qual name kids sub)=8+aq ae kids+aq aG sub:=by simp only[ae,dG,dH,de,cA,cP,dI,dJ,df,cC,cQ]
theorem sN (q:Int) (kind:Int) (op:Int) (not:Bool) (val:Val) (qual:ByteArray) (name:ByteArray) (kids:List Expr) (sub:List Query):bV q (.mk kind op not val qual name kids sub) = .mk (q) (q+1) (decide ((q+1+1).tmod 3=0)) ⟨q+1+1+1,q+1+1+1+1,bw (q+1+1+1+1+1)⟩ (bw (q+1+1+1+1+1+1)) (bw (q+1+1+1+1+1+1+1)) (d5 bV ae (q+1+1+1+1+1+1+1+1) kids) (d5 d7 aG (q+1+1+1+1+1+1+1+1+(aq ae kids:Int)) sub):=by simp only[bV,dG,dH,de,cA,cP,dI,dJ,df,cC,cQ]
theorem aX (star:Bool) (qual:ByteArray) (e_kind:Int) (e_op:Int) (e_not:Bool) (e_val:Val) (e_qual:ByteArray) (e_name:ByteArray) (e_kids:List Expr) (e_sub:List Query) (as_:ByteArray):ay (.mk star qual (.mk e_kind e_op e_not e_val e_qual e_name e_kids e_sub) as_)=11+aq ae e_kids+aq aG e_sub:=by simp only[ay,dG,dH,de,cA,cP,dI,dJ,df,cC,cQ]
theorem sO (q:Int) (star:Bool) (qual:ByteArray) (e_kind:Int) (e_op:Int) (e_not:Bool) (e_val:Val) (e_qual:ByteArray) (e_name:ByteArray) (e_kids:List Expr) (e_sub:List Query) (as_:ByteArray):ei q (.mk star qual (.mk e_kind e_op e_not e_val e_qual e_name e_kids e_sub) as_) = .mk (decide ((q).tmod 3=0)) (bw (q+1)) (.mk (q+1+1) (q+1+1+1) (decide ((q+1+1+1+1).tmod 3=0)) ⟨q+1+1+1+1+1,q+1+1+1+1+1+1,bw (q+1+1+1+1+1+1+1)⟩ (bw (q+1+1+1+1+1+1+1+1)) (bw (q+1+1+1+1+1+1+1+1+1)) (d5 bV ae (q+1+1+1+1+1+1+1+1+1+1) e_kids) (d5 d7 aG (q+1+1+1+1+1+1+1+1+1+1+(aq ae e_kids:Int)) e_sub)) (bw (q+1+1+1+1+1+1+1+1+1+1+(aq ae e_kids:Int)+(aq aG e_sub:Int))):=by simp only[ei,dG,dH,de,cA,cP,dI,dJ,df,cC,cQ]
theorem aP (table:ByteArray) (as_:ByteArray) (on:List Expr):ap (.mk table as_ on)=2+aq ae on:=by simp only[ap,dG,dH,de,cA,cP,dI,dJ,df,cC,cQ]
theorem pr (q:Int) (table:ByteArray) (as_:ByteArray) (on:List Expr):cB q (.mk table as_ on) = .mk (bw (q)) (bw (q+1)) (d5 bV ae (q+1+1) on):=by simp only[cB,dG,dH,de,cA,cP,dI,dJ,df,cC,cQ]
theorem aI (e_kind:Int) (e_op:Int) (e_not:Bool) (e_val:Val) (e_qual:ByteArray) (e_name:ByteArray) (e_kids:List Expr) (e_sub:List Query) (desc:Bool):au (.mk (.mk e_kind e_op e_not e_val e_qual e_name e_kids e_sub) desc)=9+aq ae e_kids+aq aG e_sub:=by simp only[au,dG,dH,de,cA,cP,dI,dJ,df,cC,cQ]
theorem ou (q:Int) (e_kind:Int) (e_op:Int) (e_not:Bool) (e_val:Val) (e_qual:ByteArray) (e_name:ByteArray) (e_kids:List Expr) (e_sub:List Query) (desc:Bool):bR q (.mk (.mk e_kind e_op e_not e_val e_qual e_name e_kids e_sub) desc) = .mk (.mk (q) (q+1) (decide ((q+1+1).tmod 3=0)) ⟨q+1+1+1,q+1+1+1+1,bw (q+1+1+1+1+1)⟩ (bw (q+1+1+1+1+1+1)) (bw (q+1+1+1+1+1+1+1)) (d5 bV ae (q+1+1+1+1+1+1+1+1) e_kids) (d5 d7 aG (q+1+1+1+1+1+1+1+1+(aq ae e_kids:Int)) e_sub)) (decide ((q+1+1+1+1+1+1+1+1+(aq ae e_kids:Int)+(aq aG e_sub:Int)).tmod 3=0)):=by simp only[bR,dG,dH,de,cA,cP,dI,dJ,df,cC,cQ]
theorem aQ (distinct:Bool) (items:List Item) (from_:List Source) (where_:List Expr) (order:List SortKey) (limit:Int):aG (.mk distinct items from_ where_ order limit)=2+aq ay items+aq ap from_+aq ae where_+aq au order:=by simp only[aG,dG,dH,de,cA,cP,dI,dJ,df,cC,cQ]
theorem qU (q:Int) (distinct:Bool) (items:List Item) (from_:List Source) (where_:List Expr) (order:List SortKey) (limit:Int):d7 q (.mk distinct items from_ where_ order limit) = .mk (decide ((q).tmod 3=0)) (d5 ei ay (q+1) items) (d5 cB ap (q+1+(aq ay items:Int)) from_) (d5 bV ae (q+1+(aq ay items:Int)+(aq ap from_:Int)) where_) (d5 bR au (q+1+(aq ay items:Int)+(aq ap from_:Int)+(aq ae where_:Int)) order) (q+1+(aq ay items:Int)+(aq ap from_:Int)+(aq ae where_:Int)+(aq au order:Int)):=by simp only[d7,dG,dH,de,cA,cP,dI,dJ,df,cC,cQ]
def uc:Expr→Prop
 |.mk _ _ _ _ _ _ kids sub=>rF 49 Expr.row bV ae kids∧rF 50 Query.row d7 aG sub
def BT:Item→Prop
 |.mk _ _ e _=>uc e
def vZ:Source→Prop
 |.mk _ _ on=>rF 49 Expr.row bV ae on
def sP:SortKey→Prop
 |.mk e _=>uc e
def yK:Query→Prop
 |.mk _ items from_ where_ order _=>rF 58 Item.row ei ay items∧rF 59 Source.row cB ap from_∧rF 49 Expr.row bV ae where_∧rF 60 SortKey.row bR au order
set_option maxHeartbeats 8000000 in
theorem gr (es:List Expr) (hx:∀e∈es,uc e):rF 49 Expr.row bV ae es:=by
 intro w k v F h hn ho hg hlib h0 h1
 obtain⟨a,cap,rfl,hcap,hmax,hz⟩:=h.slice
 have hmax':cap≤9223372036854775807:=hmax
 have hM:=Mrk.start h hn ho
 clear h hn ho
 refine⟨by kernel_rfl,cY (vs:=[.slice a es.length cap,.int .i64 k]) Tryz.func49 rfl (Nat.le_of_ble_eq_true rfl) ?_⟩
 simp (maxSteps:=10000000) only[tt,cc,seval,Tryz.f49]
 refine⟨fun f w1=>∃i:Nat,f 5=vi i∧f 1=vi (k+aq ae (es.take i))∧i≤es.length∧Mrk w F w1 a ((d5 bV ae k (es.take i)).flatMap Expr.row) ((es.drop i).flatMap Expr.row),fun f _=>(es.length-bn (f 5)).toNat,?_,?_⟩
 ·simp (maxSteps:=10000000) only[tt,cc,seval]
  exact⟨0,rfl,eX (by simp [aq]),by omega,by simpa [d5] using hM⟩
 ·rintro g w0 ⟨i,h5,h1',hi,hM⟩
  simp (maxSteps:=10000000) only[tt,cc,seval] at h5 h1'
  simp (maxSteps:=10000000) only[tt,cc,seval,h5,h1',Int.ofNat_lt]
  refine And.intro (fun hlt=>?_) (fun hge=>?_)
  ·have hlt:i<es.length:=by omega
   have hd:es.drop i=es[i]::es.drop (i+1):=List.drop_eq_getElem_cons hlt
   have hks:=bC ae es i hlt
   have hkl:=bY ae es (i+1)
   have hts:=dy bV ae k es i hlt
   have hdl:((d5 bV ae k (es.take i)).flatMap Expr.row).length=i*10:=by rw[aT Expr.row_len,am,List.length_take];congr 1;omega
   rw[hd,List.flatMap_cons] at hM
   generalize hk0:k+(aq ae (es.take i):Int)=k0 at *
   generalize hdone:(d5 bV ae k (es.take i)).flatMap Expr.row=done at *
   obtain⟨e,he⟩:∃e,es[i]=e:=⟨_,rfl⟩
   rw[he] at hks hts hM
   have hxe:=hx _ (List.getElem_mem hlt)
   rw[he] at hxe
   obtain⟨kind,op,not,val,qual,name,kids,sub⟩:=e
   obtain⟨Hkids,Hsub⟩:=hxe
   rw[aU] at hks
   simp only[Expr.row_mk,lc,Val.row] at hM
   obtain⟨b,o,rfl,hM0⟩:=hM.open (by simp)
   clear hM
   have hc0:=hM0.chl
   obtain⟨q0,z0,w1,e0,hM1⟩:=Mrk1.st hM0 (o+i*10) (.int .i64 k0) (by simp [hdl];try omega) trivial
   have hc1:=hM1.chl
   refine⟨by omega,by omega,q0,z0,w1,e0,Stp.go ?_⟩
   simp (maxSteps:=10000000) only[tt,cc,seval,h5,h1']
   rw[ak (n:=k0+1) (by omega) (by omega)]
   generalize hk1:k0+1=k1 at *
   obtain⟨q1,z1,w2,e1,hM2⟩:=Mrk1.st hM1 (o+i*10+1) (.int .i64 k1) (by simp [hdl];try omega) trivial
   have hc2:=hM2.chl
   refine⟨by omega,by omega,q1,z1,w2,e1,Stp.go ?_⟩
   simp (maxSteps:=10000000) only[tt,cc,seval,h5,h1']
   rw[ak (n:=k1+1) (by omega) (by omega)]
   generalize hk2:k1+1=k2 at *
   obtain⟨q2,z2,w3,e2,hM3⟩:=Mrk1.st hM2 (o+i*10+2) (.bool (decide (k2.tmod 3=0))) (by simp [hdl];try omega) trivial
   have hc3:=hM3.chl
   refine⟨by omega,by omega,q2,z2,w3,e2,Stp.go ?_⟩
   simp (maxSteps:=10000000) only[tt,cc,seval,h5,h1']
   rw[ak (n:=k2+1) (by omega) (by omega)]
   generalize hk3:k2+1=k3 at *
   obtain⟨q3,z3,w4,e3,hM4⟩:=Mrk1.st hM3 (o+i*10+3) (.int .i64 k3) (by simp [hdl];try omega) trivial
   have hc4:=hM4.chl
   refine⟨by omega,by omega,q3,z3,w4,e3,Stp.go ?_⟩
   simp (maxSteps:=10000000) only[tt,cc,seval,h5,h1']
   rw[ak (n:=k3+1) (by omega) (by omega)]
   generalize hk4:k3+1=k4 at *
   obtain⟨q4,z4,w5,e4,hM5⟩:=Mrk1.st hM4 (o+i*10+4) (.int .i64 k4) (by simp [hdl];try omega) trivial
   have hc5:=hM5.chl
   refine⟨by omega,by omega,q4,z4,w5,e4,Stp.go ?_⟩
   simp (maxSteps:=10000000) only[tt,cc,seval,h5,h1']
   rw[ak (n:=k4+1) (by omega) (by omega)]
   generalize hk5:k4+1=k5 at *
   obtain⟨hcb5,hcl5⟩:=cJ k5 w5 (bk hc5 hg hlib) (by omega)
   refine⟨hcb5,_,hcl5,?_⟩
   rintro _ w6 ⟨rfl,hgr5⟩
   replace hM6:=hM5.grow hgr5
   have hc6:=hM6.chl
   refine Stp.go ?_
   simp (maxSteps:=10000000) only[tt,cc,seval,h5,h1']
   obtain⟨q5,z5,w7,e6,hM7⟩:=Mrk1.st hM6 (o+i*10+5) (.string (bw k5)) (by simp [hdl];try omega) (dF (by omega))
   have hc7:=hM7.chl
   refine⟨by omega,by omega,q5,z5,w7,e6,Stp.go ?_⟩
   simp (maxSteps:=10000000) only[tt,cc,seval,h5,h1']
   rw[ak (n:=k5+1) (by omega) (by omega)]
   generalize hk6:k5+1=k6 at *
   obtain⟨hcb6,hcl6⟩:=cJ k6 w7 (bk hc7 hg hlib) (by omega)
   refine⟨hcb6,_,hcl6,?_⟩
   rintro _ w8 ⟨rfl,hgr7⟩
   replace hM8:=hM7.grow hgr7
   have hc8:=hM8.chl
   refine Stp.go ?_
   simp (maxSteps:=10000000) only[tt,cc,seval,h5,h1']
   obtain⟨q6,z6,w9,e8,hM9⟩:=Mrk1.st hM8 (o+i*10+6) (.string (bw k6)) (by simp [hdl];try omega) (dF (by omega))
   have hc9:=hM9.chl
   refine⟨by omega,by omega,q6,z6,w9,e8,Stp.go ?_⟩
   simp (maxSteps:=10000000) only[tt,cc,seval,h5,h1']
   rw[ak (n:=k6+1) (by omega) (by omega)]
   generalize hk7:k6+1=k7 at *
   obtain⟨hcb7,hcl7⟩:=cJ k7 w9 (bk hc9 hg hlib) (by omega)
   refine⟨hcb7,_,hcl7,?_⟩
   rintro _ w10 ⟨rfl,hgr9⟩
   replace hM10:=hM9.grow hgr9
   have hc10:=hM10.chl
   refine Stp.go ?_
   simp (maxSteps:=10000000) only[tt,cc,seval,h5,h1']
   obtain⟨q7,z7,w11,DU,hM11⟩:=Mrk1.st hM10 (o+i*10+7) (.string (bw k7)) (by simp [hdl];try omega) (dF (by omega))
   have hc11:=hM11.chl
   refine⟨by omega,by omega,q7,z7,w11,DU,Stp.go ?_⟩
   simp (maxSteps:=10000000) only[tt,cc,seval,h5,h1']
   rw[ak (n:=k7+1) (by omega) (by omega)]
   generalize hk8:k7+1=k8 at *
   obtain⟨v8,G8,hv8,hd8,nd8,ow8,sb8,nx8⟩:=Mrk1.load hM11 (p:=o+i*10+8) (by simp [hdl];try omega)
   refine⟨by omega,by omega,_,hv8,?_⟩
   obtain⟨hcb8,hcl8⟩:=Hkids w11 k8 v8 G8 hd8 nd8 ow8 (bk hc11 hg hlib) (fun t ht hm=>hlib t ht (sb8 _ hm)) (by omega) (by omega)
   refine⟨hcb8,_,hcl8,?_⟩
   rintro _ w12 ⟨rfl,cd8,ow8',cg8⟩
   have hM12:=nx8 _ _ cg8 cd8 ow8'
   have hc12:=hM12.chl
   refine Stp.go ?_
   simp (maxSteps:=10000000) only[tt,cc,seval,h5,h1']
   generalize hk9:k8+(aq ae kids:Int)=k9 at *
   obtain⟨v9,G9,hv9,hd9,nd9,ow9,sb9,nx9⟩:=Mrk1.load hM12 (p:=o+i*10+9) (by simp [hdl];try omega)
   refine⟨by omega,by omega,_,hv9,?_⟩
   obtain⟨hcb9,hcl9⟩:=Hsub w12 k9 v9 G9 hd9 nd9 ow9 (bk hc12 hg hlib) (fun t ht hm=>hlib t ht (sb9 _ hm)) (by omega) (by omega)
   refine⟨hcb9,_,hcl9,?_⟩
   rintro _ w13 ⟨rfl,cd9,ow9',cg9⟩
   have hM13:=nx9 _ _ cg9 cd9 ow9'
   have hc13:=hM13.chl
   refine Stp.go ?_
   simp (maxSteps:=10000000) only[tt,cc,seval,h5,h1']
   generalize hk10:k9+(aq aG sub:Int)=k10 at *
   rw[eE i (by omega)]
   refine⟨⟨i+1,rfl,eX (by rw[hks];omega),by omega,?_⟩,by simp only[bn];omega⟩
   rw[hts,List.flatMap_append]
   have:=hM13.close
   rw[hdone]
   simpa [sN,Expr.row_mk,lc,Val.row,hk1,hk2,hk3,hk4,hk5,hk6,hk7,hk8,hk9,hk10,am,int,bool,str] using this
  ·have:i=es.length:=by omega
   subst this
   rw[List.take_length,List.drop_length] at hM
   obtain⟨hc,ho,hcg⟩:=hM.done hcap hmax hz
   exact⟨by rw[List.take_length],hc,ho,hcg⟩
set_option maxHeartbeats 8000000 in
theorem lN (es:List Item) (hx:∀e∈es,BT e):rF 58 Item.row ei ay es:=by
 intro w k v F h hn ho hg hlib h0 h1
 obtain⟨a,cap,rfl,hcap,hmax,hz⟩:=h.slice
 have hmax':cap≤9223372036854775807:=hmax
 have hM:=Mrk.start h hn ho
 clear h hn ho
 refine⟨by kernel_rfl,cY (vs:=[.slice a es.length cap,.int .i64 k]) Tryz.func58 rfl (Nat.le_of_ble_eq_true rfl) ?_⟩
 simp (maxSteps:=10000000) only[tt,cc,seval,Tryz.f58]
 refine⟨fun f w1=>∃i:Nat,f 5=vi i∧f 1=vi (k+aq ay (es.take i))∧i≤es.length∧Mrk w F w1 a ((d5 ei ay k (es.take i)).flatMap Item.row) ((es.drop i).flatMap Item.row),fun f _=>(es.length-bn (f 5)).toNat,?_,?_⟩
 ·simp (maxSteps:=10000000) only[tt,cc,seval]
  exact⟨0,rfl,eX (by simp [aq]),by omega,by simpa [d5] using hM⟩
 ·rintro g w0 ⟨i,h5,h1',hi,hM⟩
  simp (maxSteps:=10000000) only[tt,cc,seval] at h5 h1'
  simp (maxSteps:=10000000) only[tt,cc,seval,h5,h1',Int.ofNat_lt]
  refine And.intro (fun hlt=>?_) (fun hge=>?_)
  ·have hlt:i<es.length:=by omega
   have hd:es.drop i=es[i]::es.drop (i+1):=List.drop_eq_getElem_cons hlt
   have hks:=bC ay es i hlt
   have hkl:=bY ay es (i+1)
   have hts:=dy ei ay k es i hlt
   have hdl:((d5 ei ay k (es.take i)).flatMap Item.row).length=i*13:=by rw[aT Item.row_len,am,List.length_take];congr 1;omega
   rw[hd,List.flatMap_cons] at hM
   generalize hk0:k+(aq ay (es.take i):Int)=k0 at *
   generalize hdone:(d5 ei ay k (es.take i)).flatMap Item.row=done at *
   obtain⟨e,he⟩:∃e,es[i]=e:=⟨_,rfl⟩
   rw[he] at hks hts hM
   have hxe:=hx _ (List.getElem_mem hlt)
   rw[he] at hxe
   obtain⟨star,qual,⟨e_kind,e_op,e_not,e_val,e_qual,e_name,e_kids,e_sub⟩,as_⟩:=e
   obtain⟨He_kids,He_sub⟩:=hxe
   rw[aX] at hks
   simp only[Expr.row_mk,Item.row_mk,lc,Val.row] at hM
   obtain⟨b,o,rfl,hM0⟩:=hM.open (by simp)
   clear hM
   have hc0:=hM0.chl
   obtain⟨q0,z0,w1,e0,hM1⟩:=Mrk1.st hM0 (o+i*13) (.bool (decide (k0.tmod 3=0))) (by simp [hdl];try omega) trivial
   have hc1:=hM1.chl
   refine⟨by omega,by omega,q0,z0,w1,e0,Stp.go ?_⟩
   simp (maxSteps:=10000000) only[tt,cc,seval,h5,h1']
   rw[ak (n:=k0+1) (by omega) (by omega)]
   generalize hk1:k0+1=k1 at *
   obtain⟨hcb1,hcl1⟩:=cJ k1 w1 (bk hc1 hg hlib) (by omega)
   refine⟨hcb1,_,hcl1,?_⟩
   rintro _ w2 ⟨rfl,hgr1⟩
   replace hM2:=hM1.grow hgr1
   have hc2:=hM2.chl
   refine Stp.go ?_
   simp (maxSteps:=10000000) only[tt,cc,seval,h5,h1']
   obtain⟨q1,z1,w3,e2,hM3⟩:=Mrk1.st hM2 (o+i*13+1) (.string (bw k1)) (by simp [hdl];try omega) (dF (by omega))
   have hc3:=hM3.chl
   refine⟨by omega,by omega,q1,z1,w3,e2,Stp.go ?_⟩
   simp (maxSteps:=10000000) only[tt,cc,seval,h5,h1']
   rw[ak (n:=k1+1) (by omega) (by omega)]
   generalize hk2:k1+1=k2 at *
   obtain⟨q2,z2,w4,e3,hM4⟩:=Mrk1.st hM3 (o+i*13+2) (.int .i64 k2) (by simp [hdl];try omega) trivial
   have hc4:=hM4.chl
   refine⟨by omega,by omega,q2,z2,w4,e3,Stp.go ?_⟩
   simp (maxSteps:=10000000) only[tt,cc,seval,h5,h1']
   rw[ak (n:=k2+1) (by omega) (by omega)]
   generalize hk3:k2+1=k3 at *
   obtain⟨q3,z3,w5,e4,hM5⟩:=Mrk1.st hM4 (o+i*13+3) (.int .i64 k3) (by simp [hdl];try omega) trivial
   have hc5:=hM5.chl
   refine⟨by omega,by omega,q3,z3,w5,e4,Stp.go ?_⟩
   simp (maxSteps:=10000000) only[tt,cc,seval,h5,h1']
   rw[ak (n:=k3+1) (by omega) (by omega)]
   generalize hk4:k3+1=k4 at *
   obtain⟨q4,z4,w6,e5,hM6⟩:=Mrk1.st hM5 (o+i*13+4) (.bool (decide (k4.tmod 3=0))) (by simp [hdl];try omega) trivial
   have hc6:=hM6.chl
   refine⟨by omega,by omega,q4,z4,w6,e5,Stp.go ?_⟩
   simp (maxSteps:=10000000) only[tt,cc,seval,h5,h1']
   rw[ak (n:=k4+1) (by omega) (by omega)]
   generalize hk5:k4+1=k5 at *
   obtain⟨q5,z5,w7,e6,hM7⟩:=Mrk1.st hM6 (o+i*13+5) (.int .i64 k5) (by simp [hdl];try omega) trivial
   have hc7:=hM7.chl
   refine⟨by omega,by omega,q5,z5,w7,e6,Stp.go ?_⟩
   simp (maxSteps:=10000000) only[tt,cc,seval,h5,h1']
   rw[ak (n:=k5+1) (by omega) (by omega)]
   generalize hk6:k5+1=k6 at *
   obtain⟨q6,z6,w8,e7,hM8⟩:=Mrk1.st hM7 (o+i*13+6) (.int .i64 k6) (by simp [hdl];try omega) trivial
   have hc8:=hM8.chl
   refine⟨by omega,by omega,q6,z6,w8,e7,Stp.go ?_⟩
   simp (maxSteps:=10000000) only[tt,cc,seval,h5,h1']
   rw[ak (n:=k6+1) (by omega) (by omega)]
   generalize hk7:k6+1=k7 at *
   obtain⟨hcb7,hcl7⟩:=cJ k7 w8 (bk hc8 hg hlib) (by omega)
   refine⟨hcb7,_,hcl7,?_⟩
   rintro _ w9 ⟨rfl,hgr8⟩
   replace hM9:=hM8.grow hgr8
   have hc9:=hM9.chl
   refine Stp.go ?_
   simp (maxSteps:=10000000) only[tt,cc,seval,h5,h1']
   obtain⟨q7,z7,w10,e9,hM10⟩:=Mrk1.st hM9 (o+i*13+7) (.string (bw k7)) (by simp [hdl];try omega) (dF (by omega))
   have hc10:=hM10.chl
   refine⟨by omega,by omega,q7,z7,w10,e9,Stp.go ?_⟩
   simp (maxSteps:=10000000) only[tt,cc,seval,h5,h1']
   rw[ak (n:=k7+1) (by omega) (by omega)]
   generalize hk8:k7+1=k8 at *
   obtain⟨hcb8,hcl8⟩:=cJ k8 w10 (bk hc10 hg hlib) (by omega)
   refine⟨hcb8,_,hcl8,?_⟩
   rintro _ w11 ⟨rfl,hgr10⟩
   replace hM11:=hM10.grow hgr10
   have hc11:=hM11.chl
   refine Stp.go ?_
   simp (maxSteps:=10000000) only[tt,cc,seval,h5,h1']
   obtain⟨q8,z8,w12,Ei,hM12⟩:=Mrk1.st hM11 (o+i*13+8) (.string (bw k8)) (by simp [hdl];try omega) (dF (by omega))
   have hc12:=hM12.chl
   refine⟨by omega,by omega,q8,z8,w12,Ei,Stp.go ?_⟩
   simp (maxSteps:=10000000) only[tt,cc,seval,h5,h1']
   rw[ak (n:=k8+1) (by omega) (by omega)]
   generalize hk9:k8+1=k9 at *
   obtain⟨hcb9,hcl9⟩:=cJ k9 w12 (bk hc12 hg hlib) (by omega)
   refine⟨hcb9,_,hcl9,?_⟩
   rintro _ w13 ⟨rfl,hgr12⟩
   replace hM13:=hM12.grow hgr12
   have hc13:=hM13.chl
   refine Stp.go ?_
   simp (maxSteps:=10000000) only[tt,cc,seval,h5,h1']
   obtain⟨q9,z9,w14,e13,hM14⟩:=Mrk1.st hM13 (o+i*13+9) (.string (bw k9)) (by simp [hdl];try omega) (dF (by omega))
   have hc14:=hM14.chl
   refine⟨by omega,by omega,q9,z9,w14,e13,Stp.go ?_⟩
   simp (maxSteps:=10000000) only[tt,cc,seval,h5,h1']
   rw[ak (n:=k9+1) (by omega) (by omega)]
   generalize hk10:k9+1=k10 at *
   obtain⟨v10,G10,hv10,hd10,nd10,ow10,sb10,nx10⟩:=Mrk1.load hM14 (p:=o+i*13+10) (by simp [hdl];try omega)
   refine⟨by omega,by omega,_,hv10,?_⟩
   obtain⟨hcb10,hcl10⟩:=He_kids w14 k10 v10 G10 hd10 nd10 ow10 (bk hc14 hg hlib) (fun t ht hm=>hlib t ht (sb10 _ hm)) (by omega) (by omega)
   refine⟨hcb10,_,hcl10,?_⟩
   rintro _ w15 ⟨rfl,cd10,ow10',cg10⟩
   have hM15:=nx10 _ _ cg10 cd10 ow10'
   have hc15:=hM15.chl
   refine Stp.go ?_
   simp (maxSteps:=10000000) only[tt,cc,seval,h5,h1']
   generalize hk11:k10+(aq ae e_kids:Int)=k11 at *
   obtain⟨v11,G11,hv11,hd11,nd11,ow11,sb11,nx11⟩:=Mrk1.load hM15 (p:=o+i*13+11) (by simp [hdl];try omega)
   refine⟨by omega,by omega,_,hv11,?_⟩
   obtain⟨hcb11,hcl11⟩:=He_sub w15 k11 v11 G11 hd11 nd11 ow11 (bk hc15 hg hlib) (fun t ht hm=>hlib t ht (sb11 _ hm)) (by omega) (by omega)
   refine⟨hcb11,_,hcl11,?_⟩
   rintro _ w16 ⟨rfl,cd11,ow11',cg11⟩
   have hM16:=nx11 _ _ cg11 cd11 ow11'
   have hc16:=hM16.chl
   refine Stp.go ?_
   simp (maxSteps:=10000000) only[tt,cc,seval,h5,h1']
   generalize hk12:k11+(aq aG e_sub:Int)=k12 at *
   obtain⟨hcb12,hcl12⟩:=cJ k12 w16 (bk hc16 hg hlib) (by omega)
   refine⟨hcb12,_,hcl12,?_⟩
   rintro _ w17 ⟨rfl,hgr16⟩
   replace hM17:=hM16.grow hgr16
   have hc17:=hM17.chl
   refine Stp.go ?_
   simp (maxSteps:=10000000) only[tt,cc,seval,h5,h1']
   obtain⟨q12,ER,w18,e17,hM18⟩:=Mrk1.st hM17 (o+i*13+12) (.string (bw k12)) (by simp [hdl];try omega) (dF (by omega))
   have hc18:=hM18.chl
   refine⟨by omega,by omega,q12,ER,w18,e17,Stp.go ?_⟩
   simp (maxSteps:=10000000) only[tt,cc,seval,h5,h1']
   rw[ak (n:=k12+1) (by omega) (by omega)]
   generalize hk13:k12+1=k13 at *
   rw[eE i (by omega)]
   refine⟨⟨i+1,rfl,eX (by rw[hks];omega),by omega,?_⟩,by simp only[bn];omega⟩
   rw[hts,List.flatMap_append]
   have:=hM18.close
   rw[hdone]
   simpa [sO,Expr.row_mk,Item.row_mk,lc,Val.row,hk1,hk2,hk3,hk4,hk5,hk6,hk7,hk8,hk9,hk10,hk11,hk12,hk13,am,int,bool,str] using this
  ·have:i=es.length:=by omega
   subst this
   rw[List.take_length,List.drop_length] at hM
   obtain⟨hc,ho,hcg⟩:=hM.done hcap hmax hz
   exact⟨by rw[List.take_length],hc,ho,hcg⟩
set_option maxHeartbeats 8000000 in
theorem kV (es:List Query) (hx:∀e∈es,yK e):rF 50 Query.row d7 aG es:=by
 intro w k v F h hn ho hg hlib h0 h1
 obtain⟨a,cap,rfl,hcap,hmax,hz⟩:=h.slice
 have hmax':cap≤9223372036854775807:=hmax
 have hM:=Mrk.start h hn ho
 clear h hn ho
 refine⟨by kernel_rfl,cY (vs:=[.slice a es.length cap,.int .i64 k]) Tryz.func50 rfl (Nat.le_of_ble_eq_true rfl) ?_⟩
 simp (maxSteps:=10000000) only[tt,cc,seval,Tryz.f50]
 refine⟨fun f w1=>∃i:Nat,f 5=vi i∧f 1=vi (k+aq aG (es.take i))∧i≤es.length∧Mrk w F w1 a ((d5 d7 aG k (es.take i)).flatMap Query.row) ((es.drop i).flatMap Query.row),fun f _=>(es.length-bn (f 5)).toNat,?_,?_⟩
 ·simp (maxSteps:=10000000) only[tt,cc,seval]
  exact⟨0,rfl,eX (by simp [aq]),by omega,by simpa [d5] using hM⟩
 ·rintro g w0 ⟨i,h5,h1',hi,hM⟩
  simp (maxSteps:=10000000) only[tt,cc,seval] at h5 h1'
  simp (maxSteps:=10000000) only[tt,cc,seval,h5,h1',Int.ofNat_lt]
  refine And.intro (fun hlt=>?_) (fun hge=>?_)
  ·have hlt:i<es.length:=by omega
   have hd:es.drop i=es[i]::es.drop (i+1):=List.drop_eq_getElem_cons hlt
   have hks:=bC aG es i hlt
   have hkl:=bY aG es (i+1)
   have hts:=dy d7 aG k es i hlt
   have hdl:((d5 d7 aG k (es.take i)).flatMap Query.row).length=i*6:=by rw[aT Query.row_len,am,List.length_take];congr 1;omega
   rw[hd,List.flatMap_cons] at hM
   generalize hk0:k+(aq aG (es.take i):Int)=k0 at *
   generalize hdone:(d5 d7 aG k (es.take i)).flatMap Query.row=done at *
   obtain⟨e,he⟩:∃e,es[i]=e:=⟨_,rfl⟩
   rw[he] at hks hts hM
   have hxe:=hx _ (List.getElem_mem hlt)
   rw[he] at hxe
   obtain⟨distinct,items,from_,where_,order,limit⟩:=e
   obtain⟨Hitems,Hfrom_,Hwhere_,Horder⟩:=hxe
   rw[aQ] at hks
   simp only[lc,Query.row_mk,Val.row] at hM
   obtain⟨b,o,rfl,hM0⟩:=hM.open (by simp)
   clear hM
   have hc0:=hM0.chl
   obtain⟨q0,z0,w1,e0,hM1⟩:=Mrk1.st hM0 (o+i*6) (.bool (decide (k0.tmod 3=0))) (by simp [hdl];try omega) trivial
   have hc1:=hM1.chl
   refine⟨by omega,by omega,q0,z0,w1,e0,Stp.go ?_⟩
   simp (maxSteps:=10000000) only[tt,cc,seval,h5,h1']
   rw[ak (n:=k0+1) (by omega) (by omega)]
   generalize hk1:k0+1=k1 at *
   obtain⟨v1,G1,hv1,hd1,nd1,ow1,sb1,nx1⟩:=Mrk1.load hM1 (p:=o+i*6+1) (by simp [hdl];try omega)
   refine⟨by omega,by omega,_,hv1,?_⟩
   obtain⟨hcb1,hcl1⟩:=Hitems w1 k1 v1 G1 hd1 nd1 ow1 (bk hc1 hg hlib) (fun t ht hm=>hlib t ht (sb1 _ hm)) (by omega) (by omega)
   refine⟨hcb1,_,hcl1,?_⟩
   rintro _ w2 ⟨rfl,cd1,ow1',cg1⟩
   have hM2:=nx1 _ _ cg1 cd1 ow1'
   have hc2:=hM2.chl
   refine Stp.go ?_
   simp (maxSteps:=10000000) only[tt,cc,seval,h5,h1']
   generalize hk2:k1+(aq ay items:Int)=k2 at *
   obtain⟨v2,G2,hv2,hd2,nd2,ow2,sb2,nx2⟩:=Mrk1.load hM2 (p:=o+i*6+2) (by simp [hdl];try omega)
   refine⟨by omega,by omega,_,hv2,?_⟩
   obtain⟨hcb2,hcl2⟩:=Hfrom_ w2 k2 v2 G2 hd2 nd2 ow2 (bk hc2 hg hlib) (fun t ht hm=>hlib t ht (sb2 _ hm)) (by omega) (by omega)
   refine⟨hcb2,_,hcl2,?_⟩
   rintro _ w3 ⟨rfl,cd2,ow2',cg2⟩
   have hM3:=nx2 _ _ cg2 cd2 ow2'
   have hc3:=hM3.chl
   refine Stp.go ?_
   simp (maxSteps:=10000000) only[tt,cc,seval,h5,h1']
   generalize hk3:k2+(aq ap from_:Int)=k3 at *
   obtain⟨v3,G3,hv3,hd3,nd3,ow3,sb3,nx3⟩:=Mrk1.load hM3 (p:=o+i*6+3) (by simp [hdl];try omega)
   refine⟨by omega,by omega,_,hv3,?_⟩
   obtain⟨hcb3,hcl3⟩:=Hwhere_ w3 k3 v3 G3 hd3 nd3 ow3 (bk hc3 hg hlib) (fun t ht hm=>hlib t ht (sb3 _ hm)) (by omega) (by omega)
   refine⟨hcb3,_,hcl3,?_⟩
   rintro _ w4 ⟨rfl,cd3,ow3',cg3⟩
   have hM4:=nx3 _ _ cg3 cd3 ow3'
   have hc4:=hM4.chl
   refine Stp.go ?_
   simp (maxSteps:=10000000) only[tt,cc,seval,h5,h1']
   generalize hk4:k3+(aq ae where_:Int)=k4 at *
   obtain⟨v4,G4,hv4,hd4,nd4,ow4,sb4,nx4⟩:=Mrk1.load hM4 (p:=o+i*6+4) (by simp [hdl];try omega)
   refine⟨by omega,by omega,_,hv4,?_⟩
   obtain⟨hcb4,hcl4⟩:=Horder w4 k4 v4 G4 hd4 nd4 ow4 (bk hc4 hg hlib) (fun t ht hm=>hlib t ht (sb4 _ hm)) (by omega) (by omega)
   refine⟨hcb4,_,hcl4,?_⟩
   rintro _ w5 ⟨rfl,cd4,ow4',cg4⟩
   have hM5:=nx4 _ _ cg4 cd4 ow4'
   have hc5:=hM5.chl
   refine Stp.go ?_
   simp (maxSteps:=10000000) only[tt,cc,seval,h5,h1']
   generalize hk5:k4+(aq au order:Int)=k5 at *
   obtain⟨q5,z5,w6,e5,hM6⟩:=Mrk1.st hM5 (o+i*6+5) (.int .i64 k5) (by simp [hdl];try omega) trivial
   have hc6:=hM6.chl
   refine⟨by omega,by omega,q5,z5,w6,e5,Stp.go ?_⟩
   simp (maxSteps:=10000000) only[tt,cc,seval,h5,h1']
   rw[ak (n:=k5+1) (by omega) (by omega)]
   generalize hk6:k5+1=k6 at *
   rw[eE i (by omega)]
   refine⟨⟨i+1,rfl,eX (by rw[hks];omega),by omega,?_⟩,by simp only[bn];omega⟩
   rw[hts,List.flatMap_append]
   have:=hM6.close
   rw[hdone]
   simpa [qU,lc,Query.row_mk,Val.row,hk1,hk2,hk3,hk4,hk5,hk6,am,int,bool,str] using this
  ·have:i=es.length:=by omega
   subst this
   rw[List.take_length,List.drop_length] at hM
   obtain⟨hc,ho,hcg⟩:=hM.done hcap hmax hz
   exact⟨by rw[List.take_length],hc,ho,hcg⟩
set_option maxHeartbeats 8000000 in
theorem jq (es:List SortKey) (hx:∀e∈es,sP e):rF 60 SortKey.row bR au es:=by
 intro w k v F h hn ho hg hlib h0 h1
 obtain⟨a,cap,rfl,hcap,hmax,hz⟩:=h.slice
 have hmax':cap≤9223372036854775807:=hmax
 have hM:=Mrk.start h hn ho
 clear h hn ho
 refine⟨by kernel_rfl,cY (vs:=[.slice a es.length cap,.int .i64 k]) Tryz.func60 rfl (Nat.le_of_ble_eq_true rfl) ?_⟩
 simp (maxSteps:=10000000) only[tt,cc,seval,Tryz.f60]
 refine⟨fun f w1=>∃i:Nat,f 5=vi i∧f 1=vi (k+aq au (es.take i))∧i≤es.length∧Mrk w F w1 a ((d5 bR au k (es.take i)).flatMap SortKey.row) ((es.drop i).flatMap SortKey.row),fun f _=>(es.length-bn (f 5)).toNat,?_,?_⟩
 ·simp (maxSteps:=10000000) only[tt,cc,seval]
  exact⟨0,rfl,eX (by simp [aq]),by omega,by simpa [d5] using hM⟩
 ·rintro g w0 ⟨i,h5,h1',hi,hM⟩
  simp (maxSteps:=10000000) only[tt,cc,seval] at h5 h1'
  simp (maxSteps:=10000000) only[tt,cc,seval,h5,h1',Int.ofNat_lt]
  refine And.intro (fun hlt=>?_) (fun hge=>?_)
  ·have hlt:i<es.length:=by omega
   have hd:es.drop i=es[i]::es.drop (i+1):=List.drop_eq_getElem_cons hlt
   have hks:=bC au es i hlt
   have hkl:=bY au es (i+1)
   have hts:=dy bR au k es i hlt
   have hdl:((d5 bR au k (es.take i)).flatMap SortKey.row).length=i*11:=by rw[aT SortKey.row_len,am,List.length_take];congr 1;omega
   rw[hd,List.flatMap_cons] at hM
   generalize hk0:k+(aq au (es.take i):Int)=k0 at *
   generalize hdone:(d5 bR au k (es.take i)).flatMap SortKey.row=done at *
   obtain⟨e,he⟩:∃e,es[i]=e:=⟨_,rfl⟩
   rw[he] at hks hts hM
   have hxe:=hx _ (List.getElem_mem hlt)
   rw[he] at hxe
   obtain⟨⟨e_kind,e_op,e_not,e_val,e_qual,e_name,e_kids,e_sub⟩,desc⟩:=e
   obtain⟨He_kids,He_sub⟩:=hxe
   rw[aI] at hks
   simp only[Expr.row_mk,lc,SortKey.row_mk,Val.row] at hM
   obtain⟨b,o,rfl,hM0⟩:=hM.open (by simp)
   clear hM
   have hc0:=hM0.chl
   obtain⟨q0,z0,w1,e0,hM1⟩:=Mrk1.st hM0 (o+i*11) (.int .i64 k0) (by simp [hdl];try omega) trivial
   have hc1:=hM1.chl
   refine⟨by omega,by omega,q0,z0,w1,e0,Stp.go ?_⟩
   simp (maxSteps:=10000000) only[tt,cc,seval,h5,h1']
   rw[ak (n:=k0+1) (by omega) (by omega)]
   generalize hk1:k0+1=k1 at *
   obtain⟨q1,z1,w2,e1,hM2⟩:=Mrk1.st hM1 (o+i*11+1) (.int .i64 k1) (by simp [hdl];try omega) trivial
   have hc2:=hM2.chl
   refine⟨by omega,by omega,q1,z1,w2,e1,Stp.go ?_⟩
   simp (maxSteps:=10000000) only[tt,cc,seval,h5,h1']
   rw[ak (n:=k1+1) (by omega) (by omega)]
   generalize hk2:k1+1=k2 at *
   obtain⟨q2,z2,w3,e2,hM3⟩:=Mrk1.st hM2 (o+i*11+2) (.bool (decide (k2.tmod 3=0))) (by simp [hdl];try omega) trivial
   have hc3:=hM3.chl
   refine⟨by omega,by omega,q2,z2,w3,e2,Stp.go ?_⟩
   simp (maxSteps:=10000000) only[tt,cc,seval,h5,h1']
   rw[ak (n:=k2+1) (by omega) (by omega)]
   generalize hk3:k2+1=k3 at *
   obtain⟨q3,z3,w4,e3,hM4⟩:=Mrk1.st hM3 (o+i*11+3) (.int .i64 k3) (by simp [hdl];try omega) trivial
   have hc4:=hM4.chl
   refine⟨by omega,by omega,q3,z3,w4,e3,Stp.go ?_⟩
   simp (maxSteps:=10000000) only[tt,cc,seval,h5,h1']
   rw[ak (n:=k3+1) (by omega) (by omega)]
   generalize hk4:k3+1=k4 at *
   obtain⟨q4,z4,w5,e4,hM5⟩:=Mrk1.st hM4 (o+i*11+4) (.int .i64 k4) (by simp [hdl];try omega) trivial
   have hc5:=hM5.chl
   refine⟨by omega,by omega,q4,z4,w5,e4,Stp.go ?_⟩
   simp (maxSteps:=10000000) only[tt,cc,seval,h5,h1']
   rw[ak (n:=k4+1) (by omega) (by omega)]
   generalize hk5:k4+1=k5 at *
   obtain⟨hcb5,hcl5⟩:=cJ k5 w5 (bk hc5 hg hlib) (by omega)
   refine⟨hcb5,_,hcl5,?_⟩
   rintro _ w6 ⟨rfl,hgr5⟩
   replace hM6:=hM5.grow hgr5
   have hc6:=hM6.chl
   refine Stp.go ?_
   simp (maxSteps:=10000000) only[tt,cc,seval,h5,h1']
   obtain⟨q5,z5,w7,e6,hM7⟩:=Mrk1.st hM6 (o+i*11+5) (.string (bw k5)) (by simp [hdl];try omega) (dF (by omega))
   have hc7:=hM7.chl
   refine⟨by omega,by omega,q5,z5,w7,e6,Stp.go ?_⟩
   simp (maxSteps:=10000000) only[tt,cc,seval,h5,h1']
   rw[ak (n:=k5+1) (by omega) (by omega)]
   generalize hk6:k5+1=k6 at *
   obtain⟨hcb6,hcl6⟩:=cJ k6 w7 (bk hc7 hg hlib) (by omega)
   refine⟨hcb6,_,hcl6,?_⟩
   rintro _ w8 ⟨rfl,hgr7⟩
   replace hM8:=hM7.grow hgr7
   have hc8:=hM8.chl
   refine Stp.go ?_
   simp (maxSteps:=10000000) only[tt,cc,seval,h5,h1']
   obtain⟨q6,z6,w9,e8,hM9⟩:=Mrk1.st hM8 (o+i*11+6) (.string (bw k6)) (by simp [hdl];try omega) (dF (by omega))
   have hc9:=hM9.chl
   refine⟨by omega,by omega,q6,z6,w9,e8,Stp.go ?_⟩
   simp (maxSteps:=10000000) only[tt,cc,seval,h5,h1']
   rw[ak (n:=k6+1) (by omega) (by omega)]
   generalize hk7:k6+1=k7 at *
   obtain⟨hcb7,hcl7⟩:=cJ k7 w9 (bk hc9 hg hlib) (by omega)
   refine⟨hcb7,_,hcl7,?_⟩
   rintro _ w10 ⟨rfl,hgr9⟩
   replace hM10:=hM9.grow hgr9
   have hc10:=hM10.chl
   refine Stp.go ?_
   simp (maxSteps:=10000000) only[tt,cc,seval,h5,h1']
   obtain⟨q7,z7,w11,DU,hM11⟩:=Mrk1.st hM10 (o+i*11+7) (.string (bw k7)) (by simp [hdl];try omega) (dF (by omega))
   have hc11:=hM11.chl
   refine⟨by omega,by omega,q7,z7,w11,DU,Stp.go ?_⟩
   simp (maxSteps:=10000000) only[tt,cc,seval,h5,h1']
   rw[ak (n:=k7+1) (by omega) (by omega)]
   generalize hk8:k7+1=k8 at *
   obtain⟨v8,G8,hv8,hd8,nd8,ow8,sb8,nx8⟩:=Mrk1.load hM11 (p:=o+i*11+8) (by simp [hdl];try omega)
   refine⟨by omega,by omega,_,hv8,?_⟩
   obtain⟨hcb8,hcl8⟩:=He_kids w11 k8 v8 G8 hd8 nd8 ow8 (bk hc11 hg hlib) (fun t ht hm=>hlib t ht (sb8 _ hm)) (by omega) (by omega)
   refine⟨hcb8,_,hcl8,?_⟩
   rintro _ w12 ⟨rfl,cd8,ow8',cg8⟩
   have hM12:=nx8 _ _ cg8 cd8 ow8'
   have hc12:=hM12.chl
   refine Stp.go ?_
   simp (maxSteps:=10000000) only[tt,cc,seval,h5,h1']
   generalize hk9:k8+(aq ae e_kids:Int)=k9 at *
   obtain⟨v9,G9,hv9,hd9,nd9,ow9,sb9,nx9⟩:=Mrk1.load hM12 (p:=o+i*11+9) (by simp [hdl];try omega)
   refine⟨by omega,by omega,_,hv9,?_⟩
   obtain⟨hcb9,hcl9⟩:=He_sub w12 k9 v9 G9 hd9 nd9 ow9 (bk hc12 hg hlib) (fun t ht hm=>hlib t ht (sb9 _ hm)) (by omega) (by omega)
   refine⟨hcb9,_,hcl9,?_⟩
   rintro _ w13 ⟨rfl,cd9,ow9',cg9⟩
   have hM13:=nx9 _ _ cg9 cd9 ow9'
   have hc13:=hM13.chl
   refine Stp.go ?_
   simp (maxSteps:=10000000) only[tt,cc,seval,h5,h1']
   generalize hk10:k9+(aq aG e_sub:Int)=k10 at *
   obtain⟨q10,EQ,w14,e13,hM14⟩:=Mrk1.st hM13 (o+i*11+10) (.bool (decide (k10.tmod 3=0))) (by simp [hdl];try omega) trivial
   have hc14:=hM14.chl
   refine⟨by omega,by omega,q10,EQ,w14,e13,Stp.go ?_⟩
   simp (maxSteps:=10000000) only[tt,cc,seval,h5,h1']
   rw[ak (n:=k10+1) (by omega) (by omega)]
   generalize hk11:k10+1=k11 at *
   rw[eE i (by omega)]
   refine⟨⟨i+1,rfl,eX (by rw[hks];omega),by omega,?_⟩,by simp only[bn];omega⟩
   rw[hts,List.flatMap_append]
   have:=hM14.close
   rw[hdone]
   simpa [ou,Expr.row_mk,lc,SortKey.row_mk,Val.row,hk1,hk2,hk3,hk4,hk5,hk6,hk7,hk8,hk9,hk10,hk11,am,int,bool,str] using this
  ·have:i=es.length:=by omega
   subst this
   rw[List.take_length,List.drop_length] at hM
   obtain⟨hc,ho,hcg⟩:=hM.done hcap hmax hz
   exact⟨by rw[List.take_length],hc,ho,hcg⟩
set_option maxHeartbeats 8000000 in
theorem ki (es:List Source) (hx:∀e∈es,vZ e):rF 59 Source.row cB ap es:=by
 intro w k v F h hn ho hg hlib h0 h1
 obtain⟨a,cap,rfl,hcap,hmax,hz⟩:=h.slice
 have hmax':cap≤9223372036854775807:=hmax
 have hM:=Mrk.start h hn ho
 clear h hn ho
 refine⟨by kernel_rfl,cY (vs:=[.slice a es.length cap,.int .i64 k]) Tryz.func59 rfl (Nat.le_of_ble_eq_true rfl) ?_⟩
 simp (maxSteps:=10000000) only[tt,cc,seval,Tryz.f59]
 refine⟨fun f w1=>∃i:Nat,f 5=vi i∧f 1=vi (k+aq ap (es.take i))∧i≤es.length∧Mrk w F w1 a ((d5 cB ap k (es.take i)).flatMap Source.row) ((es.drop i).flatMap Source.row),fun f _=>(es.length-bn (f 5)).toNat,?_,?_⟩
 ·simp (maxSteps:=10000000) only[tt,cc,seval]
  exact⟨0,rfl,eX (by simp [aq]),by omega,by simpa [d5] using hM⟩
 ·rintro g w0 ⟨i,h5,h1',hi,hM⟩
  simp (maxSteps:=10000000) only[tt,cc,seval] at h5 h1'
  simp (maxSteps:=10000000) only[tt,cc,seval,h5,h1',Int.ofNat_lt]
  refine And.intro (fun hlt=>?_) (fun hge=>?_)
  ·have hlt:i<es.length:=by omega
   have hd:es.drop i=es[i]::es.drop (i+1):=List.drop_eq_getElem_cons hlt
   have hks:=bC ap es i hlt
   have hkl:=bY ap es (i+1)
   have hts:=dy cB ap k es i hlt
   have hdl:((d5 cB ap k (es.take i)).flatMap Source.row).length=i*3:=by rw[aT Source.row_len,am,List.length_take];congr 1;omega
   rw[hd,List.flatMap_cons] at hM
   generalize hk0:k+(aq ap (es.take i):Int)=k0 at *
   generalize hdone:(d5 cB ap k (es.take i)).flatMap Source.row=done at *
   obtain⟨e,he⟩:∃e,es[i]=e:=⟨_,rfl⟩
   rw[he] at hks hts hM
   have hxe:=hx _ (List.getElem_mem hlt)
   rw[he] at hxe
   obtain⟨table,as_,on⟩:=e
   have Hon:=hxe
   rw[aP] at hks
   simp only[lc,Source.row_mk,Val.row] at hM
   obtain⟨b,o,rfl,hM0⟩:=hM.open (by simp)
   clear hM
   have hc0:=hM0.chl
   obtain⟨hcb0,hcl0⟩:=cJ k0 w0 (bk hc0 hg hlib) (by omega)
   refine⟨hcb0,_,hcl0,?_⟩
   rintro _ w1 ⟨rfl,hgr0⟩
   replace hM1:=hM0.grow hgr0
   have hc1:=hM1.chl
   refine Stp.go ?_
   simp (maxSteps:=10000000) only[tt,cc,seval,h5,h1']
   obtain⟨q0,z0,w2,e1,hM2⟩:=Mrk1.st hM1 (o+i*3) (.string (bw k0)) (by simp [hdl];try omega) (dF (by omega))
   have hc2:=hM2.chl
   refine⟨by omega,by omega,q0,z0,w2,e1,Stp.go ?_⟩
   simp (maxSteps:=10000000) only[tt,cc,seval,h5,h1']
   rw[ak (n:=k0+1) (by omega) (by omega)]
   generalize hk1:k0+1=k1 at *
   obtain⟨hcb1,hcl1⟩:=cJ k1 w2 (bk hc2 hg hlib) (by omega)
   refine⟨hcb1,_,hcl1,?_⟩
   rintro _ w3 ⟨rfl,hgr2⟩
   replace hM3:=hM2.grow hgr2
   have hc3:=hM3.chl
   refine Stp.go ?_
   simp (maxSteps:=10000000) only[tt,cc,seval,h5,h1']
   obtain⟨q1,z1,w4,e3,hM4⟩:=Mrk1.st hM3 (o+i*3+1) (.string (bw k1)) (by simp [hdl];try omega) (dF (by omega))
   have hc4:=hM4.chl
   refine⟨by omega,by omega,q1,z1,w4,e3,Stp.go ?_⟩
   simp (maxSteps:=10000000) only[tt,cc,seval,h5,h1']
   rw[ak (n:=k1+1) (by omega) (by omega)]
   generalize hk2:k1+1=k2 at *
   obtain⟨v2,G2,hv2,hd2,nd2,ow2,sb2,nx2⟩:=Mrk1.load hM4 (p:=o+i*3+2) (by simp [hdl];try omega)
   refine⟨by omega,by omega,_,hv2,?_⟩
   obtain⟨hcb2,hcl2⟩:=Hon w4 k2 v2 G2 hd2 nd2 ow2 (bk hc4 hg hlib) (fun t ht hm=>hlib t ht (sb2 _ hm)) (by omega) (by omega)
   refine⟨hcb2,_,hcl2,?_⟩
   rintro _ w5 ⟨rfl,cd2,ow2',cg2⟩
   have hM5:=nx2 _ _ cg2 cd2 ow2'
   have hc5:=hM5.chl
   refine Stp.go ?_
   simp (maxSteps:=10000000) only[tt,cc,seval,h5,h1']
   generalize hk3:k2+(aq ae on:Int)=k3 at *
   rw[eE i (by omega)]
   refine⟨⟨i+1,rfl,eX (by rw[hks];omega),by omega,?_⟩,by simp only[bn];omega⟩
   rw[hts,List.flatMap_append]
   have:=hM5.close
   rw[hdone]
   simpa [pr,lc,Source.row_mk,Val.row,hk1,hk2,hk3,am,int,bool,str] using this
  ·have:i=es.length:=by omega
   subst this
   rw[List.take_length,List.drop_length] at hM
   obtain⟨hc,ho,hcg⟩:=hM.done hcap hmax hz
   exact⟨by rw[List.take_length],hc,ho,hcg⟩
theorem j6:(∀a:Expr,uc a)∧(∀a:Item,BT a)∧(∀a:Source,vZ a)∧(∀a:SortKey,sP a)∧(∀a:Query,yK a):=by
 refine Expr.ind ?_ ?_ ?_ ?_ ?_
 ·intro kind op not val qual name kids sub hkids hsub
  exact⟨gr _ hkids,kV _ hsub⟩
 ·intro star qual e as_ he
  exact he
 ·intro table as_ on hon
  exact gr _ hon
 ·intro e desc he
  exact he
 ·intro distinct items from_ where_ order limit hitems hfrom_ hwhere_ horder
  exact⟨lN _ hitems,ki _ hfrom_,gr _ hwhere_,jq _ horder⟩
theorem gZ (es:List Expr):rF 49 Expr.row bV ae es:=gr es (fun e _=>j6.1 e)
theorem wb (es:List Item):rF 58 Item.row ei ay es:=lN es (fun e _=>j6.2.1 e)
theorem ud (es:List Query):rF 50 Query.row d7 aG es:=kV es (fun e _=>j6.2.2.2.2 e)
theorem qV (es:List SortKey):rF 60 SortKey.row bR au es:=jq es (fun e _=>j6.2.2.2.1 e)
theorem rG (es:List Source):rF 59 Source.row cB ap es:=ki es (fun e _=>j6.2.2.1 e)
set_option maxHeartbeats 1000000 in
theorem pt (distinct:Bool) (items:List Item) (from_:List Source) (where_:List Expr) (order:List SortKey) (limit:Int) (q:Int) (w:World) (vs:List Value) (F:List Nat) (h:ValsF w (Query.mk distinct items from_ where_ order limit).row vs F) (hn:F.Nodup) (ho:OwnL w F) (hg:GlW w (fun _=>False)) (hlib:∀t∈dv,t.1 ∉ F) (h0:0≤q) (h1:q+(aq ay items:Int)+(aq ap from_:Int)+(aq ae where_:Int)+(aq au order:Int)≤4611686018427387904) :
 aV Tryz.prog 22=true∧Calls Tryz.prog 22 #[.agg vs.toArray,.int .i64 q] w fun e w'=>∃r,e = .returned r∧r = .int .i64 (q+(aq ay items:Int)+(aq ap from_:Int)+(aq ae where_:Int)+(aq au order:Int))∧ValsF w' (Query.mk distinct (d5 ei ay (q) items) (d5 cB ap (q+(aq ay items:Int)) from_) (d5 bV ae (q+(aq ay items:Int)+(aq ap from_:Int)) where_) (d5 bR au (q+(aq ay items:Int)+(aq ap from_:Int)+(aq ae where_:Int)) order) limit).row vs F∧OwnL w' F∧ChL F w w':=by
 simp only[lc,Query.row_mk,Val.row] at h ⊢
 obtain⟨v0,r0,F0,R0,rfl,c0,hh0,rfl⟩:=bI h
 obtain⟨rfl,rfl,ok0⟩:=c0
 obtain⟨v1,r1,F1,R1,rfl,c1,hh1,rfl⟩:=bI hh0
 obtain⟨v2,r2,F2,R2,rfl,c2,hh2,rfl⟩:=bI hh1
 obtain⟨v3,r3,F3,R3,rfl,c3,hh3,rfl⟩:=bI hh2
 obtain⟨v4,r4,F4,R4,rfl,c4,hh4,rfl⟩:=bI hh3
 obtain⟨v5,r5,F5,R5,rfl,c5,hh5,rfl⟩:=bI hh4
 obtain⟨rfl,rfl,ok5⟩:=c5
 obtain⟨rfl,rfl⟩:=nv hh5
 simp only[List.nil_append,List.append_nil] at hn ho hlib ⊢
 have n1:F1.Nodup:=f9 hn (by intro x;simp only[List.count_append];omega)
 have n2:F2.Nodup:=f9 hn (by intro x;simp only[List.count_append];omega)
 have n3:F3.Nodup:=f9 hn (by intro x;simp only[List.count_append];omega)
 have n4:F4.Nodup:=f9 hn (by intro x;simp only[List.count_append];omega)
 have o1:OwnL w F1:=ho.sub (by intro x hx;simp [hx])
 have l1:∀t∈dv,t.1 ∉ F1:=fun t ht hm=>hlib t ht (by simp [hm])
 have o2:OwnL w F2:=ho.sub (by intro x hx;simp [hx])
 have l2:∀t∈dv,t.1 ∉ F2:=fun t ht hm=>hlib t ht (by simp [hm])
 have o3:OwnL w F3:=ho.sub (by intro x hx;simp [hx])
 have l3:∀t∈dv,t.1 ∉ F3:=fun t ht hm=>hlib t ht (by simp [hm])
 have o4:OwnL w F4:=ho.sub (by intro x hx;simp [hx])
 have l4:∀t∈dv,t.1 ∉ F4:=fun t ht hm=>hlib t ht (by simp [hm])
 have d1_2:∀x∈F1,x ∉ F2:=fun x hx hy=>bD hn (by intro x;simp only[List.count_append];omega) x hx hy
 have d1_3:∀x∈F1,x ∉ F3:=fun x hx hy=>bD hn (by intro x;simp only[List.count_append];omega) x hx hy
 have d1_4:∀x∈F1,x ∉ F4:=fun x hx hy=>bD hn (by intro x;simp only[List.count_append];omega) x hx hy
 have d2_1:∀x∈F2,x ∉ F1:=fun x hx hy=>bD hn (by intro x;simp only[List.count_append];omega) x hx hy
 have d2_3:∀x∈F2,x ∉ F3:=fun x hx hy=>bD hn (by intro x;simp only[List.count_append];omega) x hx hy
 have d2_4:∀x∈F2,x ∉ F4:=fun x hx hy=>bD hn (by intro x;simp only[List.count_append];omega) x hx hy
 have d3_1:∀x∈F3,x ∉ F1:=fun x hx hy=>bD hn (by intro x;simp only[List.count_append];omega) x hx hy
 have d3_2:∀x∈F3,x ∉ F2:=fun x hx hy=>bD hn (by intro x;simp only[List.count_append];omega) x hx hy
 have d3_4:∀x∈F3,x ∉ F4:=fun x hx hy=>bD hn (by intro x;simp only[List.count_append];omega) x hx hy
 have d4_1:∀x∈F4,x ∉ F1:=fun x hx hy=>bD hn (by intro x;simp only[List.count_append];omega) x hx hy
 have d4_2:∀x∈F4,x ∉ F2:=fun x hx hy=>bD hn (by intro x;simp only[List.count_append];omega) x hx hy
 have d4_3:∀x∈F4,x ∉ F3:=fun x hx hy=>bD hn (by intro x;simp only[List.count_append];omega) x hx hy
 refine⟨by kernel_rfl,?_⟩
 have hcc:=fun R=>@cY Tryz.prog w 22 Tryz.f22 _ [.agg [.bool distinct,v1,v2,v3,v4,.int .i64 limit].toArray,.int .i64 q] R Tryz.func22 rfl (Nat.le_of_ble_eq_true rfl)
 refine hcc _ ?_
 simp (maxSteps:=10000000) only[tt,cc,seval,Tryz.f22,bG]
 intro b w1 hb hw1
 obtain⟨hbx,hg1⟩:=bz hb hw1
 have hlt:∀x∈F1++(F2++(F3++(F4))),x<b:=fun x hx=>by rw[hb];exact Go.Cv.vis_lt (ho.vis x hx)
 replace c1:=c1.grow hg1.grow
 replace o1:=o1.grow hg1.grow
 replace c2:=c2.grow hg1.grow
 replace o2:=o2.grow hg1.grow
 replace c3:=c3.grow hg1.grow
 replace o3:=o3.grow hg1.grow
 replace c4:=c4.grow hg1.grow
 replace o4:=o4.grow hg1.grow
 have hG:=d3 hg1 hg
 refine⟨_,eQ (j:=1) hbx rfl,?_⟩
 obtain⟨hcb1,hcl1⟩:=wb items w1 (q) v1 F1 c1 n1 o1 hG l1 (by omega) (by omega)
 refine⟨hcb1,_,hcl1,?_⟩
 rintro _ w2 ⟨rfl,c1,o1,g1⟩
 replace hbx:=(g1.keep b (bf hbx) (fun hm=>absurd (hlt b (by simp [hm])) (Nat.lt_irrefl _))).trans hbx
 replace hG:=bk g1 hG l1
 replace c2:=c2.chg g1.chg d2_1
 replace o2:=o2.other g1 d2_1
 replace c3:=c3.chg g1.chg d3_1
 replace o3:=o3.other g1 d3_1
 replace c4:=c4.chg g1.chg d4_1
 replace o4:=o4.other g1 d4_1
 have gg0:ChL (F1++(F2++(F3++(F4)))) w1 w2:=g1.mono (by intro x hx;simp [hx])
 refine Stp.go ?_
 simp (maxSteps:=10000000) only[tt,cc,seval]
 refine⟨_,eQ (j:=2) hbx rfl,?_⟩
 obtain⟨hcb2,hcl2⟩:=rG from_ w2 (q+(aq ay items:Int)) v2 F2 c2 n2 o2 hG l2 (by omega) (by omega)
 refine⟨hcb2,_,hcl2,?_⟩
 rintro _ w3 ⟨rfl,c2,o2,g2⟩
 replace hbx:=(g2.keep b (bf hbx) (fun hm=>absurd (hlt b (by simp [hm])) (Nat.lt_irrefl _))).trans hbx
 replace hG:=bk g2 hG l2
 replace c1:=c1.chg g2.chg d1_2
 replace o1:=o1.other g2 d1_2
 replace c3:=c3.chg g2.chg d3_2
 replace o3:=o3.other g2 d3_2
 replace c4:=c4.chg g2.chg d4_2
 replace o4:=o4.other g2 d4_2
 have gg1:ChL (F1++(F2++(F3++(F4)))) w2 w3:=g2.mono (by intro x hx;simp [hx])
 refine Stp.go ?_
 simp (maxSteps:=10000000) only[tt,cc,seval]
 refine⟨_,eQ (j:=3) hbx rfl,?_⟩
 obtain⟨hcb3,hcl3⟩:=gZ where_ w3 (q+(aq ay items:Int)+(aq ap from_:Int)) v3 F3 c3 n3 o3 hG l3 (by omega) (by omega)
 refine⟨hcb3,_,hcl3,?_⟩
 rintro _ w4 ⟨rfl,c3,o3,g3⟩
 replace hbx:=(g3.keep b (bf hbx) (fun hm=>absurd (hlt b (by simp [hm])) (Nat.lt_irrefl _))).trans hbx
 replace hG:=bk g3 hG l3
 replace c1:=c1.chg g3.chg d1_3
 replace o1:=o1.other g3 d1_3
 replace c2:=c2.chg g3.chg d2_3
 replace o2:=o2.other g3 d2_3
 replace c4:=c4.chg g3.chg d4_3
 replace o4:=o4.other g3 d4_3
 have gg2:ChL (F1++(F2++(F3++(F4)))) w3 w4:=g3.mono (by intro x hx;simp [hx])
 refine Stp.go ?_
 simp (maxSteps:=10000000) only[tt,cc,seval]
 refine⟨_,eQ (j:=4) hbx rfl,?_⟩
 obtain⟨hcb4,hcl4⟩:=qV order w4 (q+(aq ay items:Int)+(aq ap from_:Int)+(aq ae where_:Int)) v4 F4 c4 n4 o4 hG l4 (by omega) (by omega)
 refine⟨hcb4,_,hcl4,?_⟩
 rintro _ w5 ⟨rfl,c4,o4,g4⟩
 replace hbx:=(g4.keep b (bf hbx) (fun hm=>absurd (hlt b (by simp [hm])) (Nat.lt_irrefl _))).trans hbx
 replace hG:=bk g4 hG l4
 replace c1:=c1.chg g4.chg d1_4
 replace o1:=o1.other g4 d1_4
 replace c2:=c2.chg g4.chg d2_4
 replace o2:=o2.other g4 d2_4
 replace c3:=c3.chg g4.chg d3_4
 replace o3:=o3.other g4 d3_4
 have gg3:ChL (F1++(F2++(F3++(F4)))) w4 w5:=g4.mono (by intro x hx;simp [hx])
 refine Stp.go ?_
 simp (maxSteps:=10000000) only[tt,cc,seval]
 refine⟨?_,o1.app (o2.app (o3.app (o4))),(((((hg1.chl _).trans gg0).trans gg1).trans gg2).trans gg3)⟩
 simpa [am] using (aY (eP ok0) (aY c1 (aY c2 (aY c3 (aY c4 (aY (eP ok5) lj))))))
set_option maxHeartbeats 1000000 in
theorem Ea (kind:Int) (op:Int) (not:Bool) (val:Val) (qual:ByteArray) (name:ByteArray) (kids:List Expr) (sub:List Query) (q:Int) (w:World) (vs:List Value) (F:List Nat) (h:ValsF w (Expr.mk kind op not val qual name kids sub).row vs F) (hn:F.Nodup) (ho:OwnL w F) (hg:GlW w (fun _=>False)) (hlib:∀t∈dv,t.1 ∉ F) (h0:0≤q) (h1:q+(aq ae kids:Int)+(aq aG sub:Int)≤4611686018427387904) :
 aV Tryz.prog 17=true∧Calls Tryz.prog 17 #[.agg vs.toArray,.int .i64 q] w fun e w'=>∃r,e = .returned r∧r = .int .i64 (q+(aq ae kids:Int)+(aq aG sub:Int))∧ValsF w' (Expr.mk kind op not val qual name (d5 bV ae (q) kids) (d5 d7 aG (q+(aq ae kids:Int)) sub)).row vs F∧OwnL w' F∧ChL F w w':=by
 simp only[Expr.row_mk,lc,Val.row] at h ⊢
 obtain⟨v0,r0,F0,R0,rfl,c0,hh0,rfl⟩:=bI h
 obtain⟨rfl,rfl,ok0⟩:=c0
 obtain⟨v1,r1,F1,R1,rfl,c1,hh1,rfl⟩:=bI hh0
 obtain⟨rfl,rfl,ok1⟩:=c1
 obtain⟨v2,r2,F2,R2,rfl,c2,hh2,rfl⟩:=bI hh1
 obtain⟨rfl,rfl,ok2⟩:=c2
 obtain⟨v3,r3,F3,R3,rfl,c3,hh3,rfl⟩:=bI hh2
 obtain⟨rfl,rfl,ok3⟩:=c3
 obtain⟨v4,r4,F4,R4,rfl,c4,hh4,rfl⟩:=bI hh3
 obtain⟨rfl,rfl,ok4⟩:=c4
 obtain⟨v5,r5,F5,R5,rfl,c5,hh5,rfl⟩:=bI hh4
 obtain⟨rfl,rfl,ok5⟩:=c5
 obtain⟨v6,r6,F6,R6,rfl,c6,hh6,rfl⟩:=bI hh5
 obtain⟨rfl,rfl,ok6⟩:=c6
 obtain⟨v7,r7,F7,R7,rfl,c7,hh7,rfl⟩:=bI hh6
 obtain⟨rfl,rfl,ok7⟩:=c7
 obtain⟨v8,r8,F8,R8,rfl,c8,hh8,rfl⟩:=bI hh7
 obtain⟨v9,r9,F9,R9,rfl,c9,hh9,rfl⟩:=bI hh8
 obtain⟨rfl,rfl⟩:=nv hh9
 simp only[List.nil_append,List.append_nil] at hn ho hlib ⊢
 have n8:F8.Nodup:=f9 hn (by intro x;simp only[List.count_append];omega)
 have n9:F9.Nodup:=f9 hn (by intro x;simp only[List.count_append];omega)
 have o8:OwnL w F8:=ho.sub (by intro x hx;simp [hx])
 have l8:∀t∈dv,t.1 ∉ F8:=fun t ht hm=>hlib t ht (by simp [hm])
 have o9:OwnL w F9:=ho.sub (by intro x hx;simp [hx])
 have l9:∀t∈dv,t.1 ∉ F9:=fun t ht hm=>hlib t ht (by simp [hm])
 have d8_9:∀x∈F8,x ∉ F9:=fun x hx hy=>bD hn (by intro x;simp only[List.count_append];omega) x hx hy
 have d9_8:∀x∈F9,x ∉ F8:=fun x hx hy=>bD hn (by intro x;simp only[List.count_append];omega) x hx hy
 refine⟨by kernel_rfl,?_⟩
 have hcc:=fun R=>@cY Tryz.prog w 17 Tryz.f17 _ [.agg [.int .i64 kind,.int .i64 op,.bool not,.int .i64 val.kind,.int .i64 val.num,.string val.text,.string qual,.string name,v8,v9].toArray,.int .i64 q] R Tryz.func17 rfl (Nat.le_of_ble_eq_true rfl)
 refine hcc _ ?_
 simp (maxSteps:=10000000) only[tt,cc,seval,Tryz.f17,bG]
 intro b w1 hb hw1
 obtain⟨hbx,hg1⟩:=bz hb hw1
 have hlt:∀x∈F8++(F9),x<b:=fun x hx=>by rw[hb];exact Go.Cv.vis_lt (ho.vis x hx)
 replace c8:=c8.grow hg1.grow
 replace o8:=o8.grow hg1.grow
 replace c9:=c9.grow hg1.grow
 replace o9:=o9.grow hg1.grow
 have hG:=d3 hg1 hg
 refine⟨_,eQ (j:=8) hbx rfl,?_⟩
 obtain⟨hcb8,hcl8⟩:=gZ kids w1 (q) v8 F8 c8 n8 o8 hG l8 (by omega) (by omega)
 refine⟨hcb8,_,hcl8,?_⟩
 rintro _ w2 ⟨rfl,c8,o8,g8⟩
 replace hbx:=(g8.keep b (bf hbx) (fun hm=>absurd (hlt b (by simp [hm])) (Nat.lt_irrefl _))).trans hbx
 replace hG:=bk g8 hG l8
 replace c9:=c9.chg g8.chg d9_8
 replace o9:=o9.other g8 d9_8
 have gg0:ChL (F8++(F9)) w1 w2:=g8.mono (by intro x hx;simp [hx])
 refine Stp.go ?_
 simp (maxSteps:=10000000) only[tt,cc,seval]
 refine⟨_,eQ (j:=9) hbx rfl,?_⟩
 obtain⟨hcb9,hcl9⟩:=ud sub w2 (q+(aq ae kids:Int)) v9 F9 c9 n9 o9 hG l9 (by omega) (by omega)
 refine⟨hcb9,_,hcl9,?_⟩
 rintro _ w3 ⟨rfl,c9,o9,g9⟩
 replace hbx:=(g9.keep b (bf hbx) (fun hm=>absurd (hlt b (by simp [hm])) (Nat.lt_irrefl _))).trans hbx
 replace hG:=bk g9 hG l9
 replace c8:=c8.chg g9.chg d8_9
 replace o8:=o8.other g9 d8_9
 have gg1:ChL (F8++(F9)) w2 w3:=g9.mono (by intro x hx;simp [hx])
 refine Stp.go ?_
 simp (maxSteps:=10000000) only[tt,cc,seval]
 refine⟨?_,o8.app (o9),(((hg1.chl _).trans gg0).trans gg1)⟩
 simpa [am] using (aY (eP ok0) (aY (eP ok1) (aY (eP ok2) (aY (eP ok3) (aY (eP ok4) (aY (eP ok5) (aY (eP ok6) (aY (eP ok7) (aY c8 (aY c9 lj))))))))))
theorem Tok.row_mk (kind:Int) (text:ByteArray) (at_:Int):(Tok.mk kind text at_).row=[int kind,str text,int at_]:=rfl
theorem Tok.lits:∀(l:List Tok),∀d∈l.flatMap Tok.row,∃x,d = .lit x:=fun l d hd=>by
 obtain⟨t,_,hd⟩:=List.mem_flatMap.1 hd
 simp only[Tok.row,List.mem_cons,List.not_mem_nil,or_false] at hd
 rcases hd with rfl|rfl|rfl<;>exact⟨_,rfl⟩
mutual
def kW:Tok→Nat
 |.mk kind text at_=>3
end
mutual
def qW:Int→Tok→Tok
 |q,.mk kind text at_=>.mk (q) (bw (q+1)) (q+1+1)
end
theorem wc (kind:Int) (text:ByteArray) (at_:Int):kW (.mk kind text at_)=3:=by simp only[kW,]
theorem BU (q:Int) (kind:Int) (text:ByteArray) (at_:Int):qW q (.mk kind text at_) = .mk (q) (bw (q+1)) (q+1+1):=by simp only[qW,]
set_option maxHeartbeats 8000000 in
theorem Cf (es:List Tok):rF 16 Tok.row qW kW es:=by
 intro w k v F h hn ho hg hlib h0 h1
 obtain⟨a,cap,rfl,hcap,hmax,hz⟩:=h.slice
 have hmax':cap≤9223372036854775807:=hmax
 have hM:=Mrk.start h hn ho
 clear h hn ho
 refine⟨by kernel_rfl,cY (vs:=[.slice a es.length cap,.int .i64 k]) Tryz.func16 rfl (Nat.le_of_ble_eq_true rfl) ?_⟩
 simp (maxSteps:=10000000) only[tt,cc,seval,Tryz.f16]
 refine⟨fun f w1=>∃i:Nat,f 5=vi i∧f 1=vi (k+aq kW (es.take i))∧i≤es.length∧Mrk w F w1 a ((d5 qW kW k (es.take i)).flatMap Tok.row) ((es.drop i).flatMap Tok.row),fun f _=>(es.length-bn (f 5)).toNat,?_,?_⟩
 ·simp (maxSteps:=10000000) only[tt,cc,seval]
  exact⟨0,rfl,eX (by simp [aq]),by omega,by simpa [d5] using hM⟩
 ·rintro g w0 ⟨i,h5,h1',hi,hM⟩
  simp (maxSteps:=10000000) only[tt,cc,seval] at h5 h1'
  simp (maxSteps:=10000000) only[tt,cc,seval,h5,h1',Int.ofNat_lt]
  refine And.intro (fun hlt=>?_) (fun hge=>?_)
  ·have hlt:i<es.length:=by omega
   have hd:es.drop i=es[i]::es.drop (i+1):=List.drop_eq_getElem_cons hlt
   have hks:=bC kW es i hlt
   have hkl:=bY kW es (i+1)
   have hts:=dy qW kW k es i hlt
   have hdl:((d5 qW kW k (es.take i)).flatMap Tok.row).length=i*3:=by rw[aT Tok.row_len,am,List.length_take];congr 1;omega
   rw[hd,List.flatMap_cons] at hM
   generalize hk0:k+(aq kW (es.take i):Int)=k0 at *
   generalize hdone:(d5 qW kW k (es.take i)).flatMap Tok.row=done at *
   obtain⟨e,he⟩:∃e,es[i]=e:=⟨_,rfl⟩
   rw[he] at hks hts hM
   obtain⟨kind,text,at_⟩:=e
   rw[wc] at hks
   simp only[lc,Tok.row_mk,Val.row] at hM
   obtain⟨b,o,rfl,hM0⟩:=hM.open (by simp)
   clear hM
   have hc0:=hM0.chl
   obtain⟨q0,z0,w1,e0,hM1⟩:=Mrk1.st hM0 (o+i*3) (.int .i64 k0) (by simp [hdl];try omega) trivial
   have hc1:=hM1.chl
   refine⟨by omega,by omega,q0,z0,w1,e0,Stp.go ?_⟩
   simp (maxSteps:=10000000) only[tt,cc,seval,h5,h1']
   rw[ak (n:=k0+1) (by omega) (by omega)]
   generalize hk1:k0+1=k1 at *
   obtain⟨hcb1,hcl1⟩:=cJ k1 w1 (bk hc1 hg hlib) (by omega)
   refine⟨hcb1,_,hcl1,?_⟩
   rintro _ w2 ⟨rfl,hgr1⟩
   replace hM2:=hM1.grow hgr1
   have hc2:=hM2.chl
   refine Stp.go ?_
   simp (maxSteps:=10000000) only[tt,cc,seval,h5,h1']
   obtain⟨q1,z1,w3,e2,hM3⟩:=Mrk1.st hM2 (o+i*3+1) (.string (bw k1)) (by simp [hdl];try omega) (dF (by omega))
   have hc3:=hM3.chl
   refine⟨by omega,by omega,q1,z1,w3,e2,Stp.go ?_⟩
   simp (maxSteps:=10000000) only[tt,cc,seval,h5,h1']
   rw[ak (n:=k1+1) (by omega) (by omega)]
   generalize hk2:k1+1=k2 at *
   obtain⟨q2,z2,w4,e3,hM4⟩:=Mrk1.st hM3 (o+i*3+2) (.int .i64 k2) (by simp [hdl];try omega) trivial
   have hc4:=hM4.chl
   refine⟨by omega,by omega,q2,z2,w4,e3,Stp.go ?_⟩
   simp (maxSteps:=10000000) only[tt,cc,seval,h5,h1']
   rw[ak (n:=k2+1) (by omega) (by omega)]
   generalize hk3:k2+1=k3 at *
   rw[eE i (by omega)]
   refine⟨⟨i+1,rfl,eX (by rw[hks];omega),by omega,?_⟩,by simp only[bn];omega⟩
   rw[hts,List.flatMap_append]
   have:=hM4.close
   rw[hdone]
   simpa [BU,lc,Tok.row_mk,Val.row,hk1,hk2,hk3,am,int,bool,str] using this
  ·have:i=es.length:=by omega
   subst this
   rw[List.take_length,List.drop_length] at hM
   obtain⟨hc,ho,hcg⟩:=hM.done hcap hmax hz
   exact⟨by rw[List.take_length],hc,ho,hcg⟩
theorem Dd:∀es:List Tok,aq kW es=3*es.length
 | []=>rfl
 |e::es=>by rw[aq,Dd es,List.length_cons];cases e;rw[wc];omega
end Go.Proofs.YteffjmaadkkmeaaGreatDoor
set_option maxRecDepth 8000
namespace Go.Proofs.YteffjmaadkkmeaaGreatDoor
open Go Go.Dv
open Go.Vc (D eb ec dK bN)
open Go.Cv
def ff (t:Tok):Nat:=t.text.size
def kM (a:List Tok):Nat:=a.length+(a.map ff).sum
theorem BV (kind:Int) (text:ByteArray) (at_:Int):ff (.mk kind text at_)=text.size:=rfl
theorem sQ (a:List Tok):kM a=a.length+(a.map ff).sum:=rfl
theorem Eb {a:List Tok} (h:kM a≤1048576):a.length≤1048576:=by unfold kM at h;omega
theorem Dz {a:List Tok} (h:kM a≤1048576):∀t∈a,t.text.size≤1048576:=fun t ht=>by
 have:ff t≤(a.map ff).sum:=by
  clear h
  induction a with
  |nil=>cases ht
  |cons x r ih=>
   rw[List.map_cons,List.sum_cons]
   rcases List.mem_cons.1 ht with rfl|ht
   ·omega
   ·have:=ih ht;omega
 have e:ff t=t.text.size:=rfl
 unfold kM at h
 omega
theorem xo (kind:Int) (text:ByteArray) (at_:Int)  (l:Int) (h0:0≤l) (h1:l≤1048576):Cl Tryz.prog 38 [.ag (an (Tok.mk kind text at_).row),vi l] [] fun r _=>r=vi (cL l (ff (Tok.mk kind text at_))):=by
 rw[BV,Tok.row_mk]
 refine ab aa false Tryz.func38 rfl (by kernel_rfl) ?_
 simp only[Tryz.f38,tt,seval]
 refine fun hs0=>?_
 rw[ak (n:=l-text.size) (by omega) (by omega)]
 refine And.intro (fun h=>?_) (fun h=>?_)
 ·exact⟨_,_,eX (by rw[pH (by omega)]),ac rfl⟩
 rw[show (l-text.size:Int)=cL l text.size from (pG (by omega)).symm] at *
 exact⟨_,_,rfl,ac rfl⟩
theorem De (t:Tok) (l:Int) (h0:0≤l) (h1:l≤1048576):Cl Tryz.prog 38 [.ag (an t.row),vi l] [] fun r _=>r=vi (cL l (ff t)):=by
 obtain⟨a,b,c⟩:=t
 exact xo a b c l h0 h1
theorem wf (a:List Tok) (hx:∀x∈a,∀l:Int,0≤l→l≤1048576→Cl Tryz.prog 38 [.ag (an x.row),vi l] [] fun r _=>r=vi (cL l (ff x))) (l:Int) (h0:0≤l) (h1:l≤1048576):Cl Tryz.prog 10 [.c (.sl a.length (a.flatMap Tok.row) none),vi l] [] fun r _=>r=vi (cL l (kM a)):=by
 rw[sQ]
 refine ab aa false Tryz.func10 rfl (by kernel_rfl) ?_
 simp only[Tryz.f10,tt,seval]
 refine fun hs=>?_
 rw[ak (n:=l-a.length) (by omega) (by omega)]
 obtain⟨tot,htot⟩:∃tot,tot=(a.map ff).sum:=⟨_,rfl⟩
 refine And.intro (fun h=>?_) (fun h=>?_)
 ·exact⟨_,_,by rw[pH (by omega)],ac rfl⟩
 ·refine dLoop.intro (fun f L p=>∃i:Nat,f 5=vi i∧i≤a.length∧f 1=vi (l-a.length-((a.take i).map ff).sum)∧0≤l-a.length-(((a.take i).map ff).sum:Nat)∧L=[]∧p=none) (fun f _ _=>(a.length-bn (f 5)).toNat) [] none ⟨SubO.nil _,PoSub.none _,?_⟩ ?_
  ·simp only[tt,seval]
   exact⟨0,rfl,by omega,by simp,by simp;omega⟩
  ·rintro g L p ⟨i,h5,hi,h1',hp,rfl,rfl⟩
   simp only[tt,seval] at h5 h1'
   obtain⟨rst,hr⟩:=cU ff a i
   simp only[tt,seval,h5,h1',Int.ofNat_lt]
   refine fun _=>And.intro (fun hlt=>?_) (fun hge=>?_)
   ·have hlt:i<a.length:=by omega
    refine⟨by omega,by omega,_,ax Tok.row_len (List.getElem?_eq_getElem hlt),Tok.ne _ _,?_⟩
    have hts:=jx ff hlt
    obtain⟨rst',hr'⟩:=cU ff a (i+1)
    simp only[tt,seval,h5,h1',Tok.tk,Tok.row_len]
    refine fc (hx a[i] (List.getElem_mem hlt) _ hp (by omega)) ?_ ?_ ?_
    ·decide
    ·simp only[tt,seval]
    rintro r rfl
    simp only[tt,seval,h5,h1']
    refine And.intro (fun hneg=>?_) (fun hpos=>?_)
    ·refine⟨_,_,?_,ac rfl⟩
     rw[pH]
     have:¬((ff a[i]:Int)≤l-a.length-((a.take i).map ff).sum):=fun h=>by rw[pG h] at hneg;omega
     omega
    ·have hle:((ff a[i]:Int)≤l-a.length-((a.take i).map ff).sum):=Int.not_lt.1 fun h=>by rw[pH h] at hpos;omega
     rw[pG hle,ak (n:=(i:Int)+1) (by omega) (by omega)]
     exact⟨[],none,SubO.nil _,PoSub.none _,⟨i+1,by simp,by omega,eX (by rw[hts];omega),by rw[hts];omega,rfl,rfl⟩,by simp only[bn];omega⟩
   ·have:i=a.length:=by omega
    subst this
    refine⟨_,_,?_,ac rfl⟩
    rw[List.take_length] at hp
    rw[List.take_length,pG (by omega)]
    exact eX (by omega)
theorem EE (a:List Tok) (l:Int) (h0:0≤l) (h1:l≤1048576):Cl Tryz.prog 10 [.c (.sl a.length (a.flatMap Tok.row) none),vi l] [] fun r _=>r=vi (cL l (kM a)):=wf a (fun x _=>De x) l h0 h1
theorem Dg (t:Tok) (h:ff t≤1048576):Cl Tryz.prog 41 [.ag (an t.row)] [] fun r _=>r = .ag (an t.row):=by
 obtain⟨a,b,c⟩:=t
 rw[Tok.row_mk]
 refine ab aa false Tryz.func41 rfl (by kernel_rfl) ?_
 simp only[Tryz.f41,tt,seval]
 exact⟨_,_,rfl,ac rfl⟩
theorem wg (a:List Tok) (hx:∀x∈a,ff x≤1048576→Cl Tryz.prog 41 [.ag (an x.row)] [] fun r _=>r = .ag (an x.row)) (h:kM a≤1048576):Cl Tryz.prog 12 [.c (.sl a.length (a.flatMap Tok.row) none)] [] fun r _=>r = .c (.ow 76 a.length (a.flatMap Tok.row) none):=by
 rw[sQ] at h
 have hl:a.length≤1048576:=by omega
 refine ab aa false Tryz.func12 rfl (by kernel_rfl) ?_
 simp only[Tryz.f12,tt,seval]
 refine fun _=>⟨by omega,by omega,by omega,?_⟩
 refine dLoop.intro (fun f L p=>∃i:Nat,f 4=vi i∧i≤a.length∧L=[(7,.arr 76 a.length ((a.take i).flatMap Tok.row++(List.replicate (a.length-i) [int 0,str ByteArray.empty,int 0]).flatten) none)]∧p=none) (fun f _ _=>(a.length-bn (f 4)).toNat) [(7,.arr 76 a.length (List.replicate a.length [int 0,str ByteArray.empty,int 0]).flatten none)] none ⟨SubO.cons rfl (SubO.nil _),PoSub.none _,?_⟩ ?_
 ·simp only[tt,seval]
  exact⟨0,rfl,by omega,by simp⟩
 ·rintro g L p ⟨i,h4,hi,rfl,rfl⟩
  simp only[tt,seval] at h4
  simp only[tt,seval,h4,Int.ofNat_lt]
  refine fun _=>And.intro (fun hlt=>?_) (fun hge=>?_)
  ·have hlt:i<a.length:=by omega
   have hts:=jx ff hlt
   obtain⟨rst',hr'⟩:=cU ff a (i+1)
   refine⟨by omega,by omega,_,ax Tok.row_len (List.getElem?_eq_getElem hlt),Tok.ne _ _,?_⟩
   simp only[tt,seval,h4,Tok.tk,Tok.row_len]
   refine fc (hx a[i] (List.getElem_mem hlt) (by omega)) ?_ ?_ ?_
   ·decide
   ·simp only[tt,seval]
   rintro r rfl
   simp only[tt,seval,h4,Tok.ds,Tok.row_len]
   refine⟨by omega,by omega,by rw[Cg Tok.row_len rfl a (by omega)];omega,?_⟩
   rw[eE i (by omega)]
   exact⟨_,none,SubO.cons rfl (SubO.nil _),PoSub.none _,⟨i+1,rfl,by omega,congrArg (fun x=>[(7,O.arr 76 a.length x none)]) (Ch Tok.row_len rfl hlt),rfl⟩,by simp only[bn];omega⟩
  ·have:i=a.length:=by omega
   subst this
   rw[A7]
   refine⟨_,[],rfl,aj ?_⟩
   simp only[tt,seval]
theorem EF (a:List Tok) (h:kM a≤1048576):Cl Tryz.prog 12 [.c (.sl a.length (a.flatMap Tok.row) none)] [] fun r _=>r = .c (.ow 76 a.length (a.flatMap Tok.row) none):=wg a (fun x _=>Dg x) h
theorem xp (kind:Int) (text:ByteArray) (at_:Int)  : Cl Tryz.prog 47 [.ag (an (Tok.mk kind text at_).row),.ag (an (Tok.mk kind text at_).row)] [] fun r _=>r=vb true:=by
 rw[Tok.row_mk]
 refine ab aa false Tryz.func47 rfl (by kernel_rfl) ?_
 simp only[Tryz.f47,tt,seval]
 exact⟨_,_,rfl,ac rfl⟩
theorem wi (a:List Tok) (hx:∀x∈a,Cl Tryz.prog 47 [.ag (an x.row),.ag (an x.row)] [] fun r _=>r=vb true):Cl Tryz.prog 15 [.c (.sl a.length (a.flatMap Tok.row) none),.c (.sl a.length (a.flatMap Tok.row) none)] [] fun r _=>r=vb true:=by
 refine ab aa false Tryz.func15 rfl (by kernel_rfl) ?_
 simp only[Tryz.f15,tt,seval]
 refine fun _ _=>?_
 refine dLoop.intro (fun f L p=>∃i:Nat,f 5=vi i∧i≤a.length∧L=[]∧p=none) (fun f _ _=>(a.length-bn (f 5)).toNat) [] none ⟨SubO.nil _,PoSub.none _,?_⟩ ?_
 ·simp only[tt,seval]
  exact⟨0,rfl,by omega⟩
 ·rintro g L p ⟨i,h5,hi,rfl,rfl⟩
  simp only[tt,seval] at h5
  simp only[tt,seval,h5,Int.ofNat_lt]
  refine fun _=>And.intro (fun hlt=>?_) (fun hge=>?_)
  ·have hlt:i<a.length:=by omega
   refine dDrawn.intro [] (gG [0,2,4,6,8,10,12,14,17,18]) (by kernel_rfl) ?_
   simp only[tt,seval]
   simp only[tt,seval,h5]
   refine⟨by omega,by omega,_,ax Tok.row_len (List.getElem?_eq_getElem hlt),Tok.ne _ _,?_⟩
   simp only[tt,seval,h5,Tok.tk,Tok.row_len]
   refine⟨by omega,by omega,_,ax Tok.row_len (List.getElem?_eq_getElem hlt),Tok.ne _ _,?_⟩
   simp only[tt,seval,h5,Tok.tk,Tok.row_len]
   refine fc (hx a[i] (List.getElem_mem hlt)) ?_ ?_ ?_
   ·decide
   ·simp only[tt,seval]
   rintro r rfl
   simp only[tt,seval,h5]
   rw[eE i (by omega)]
   exact⟨[],none,SubO.nil _,PoSub.none _,⟨i+1,rfl,by omega,rfl,rfl⟩,by simp only[bn];omega⟩
  ·exact⟨_,_,rfl,ac rfl⟩
theorem EG (a:List Tok):Cl Tryz.prog 15 [.c (.sl a.length (a.flatMap Tok.row) none),.c (.sl a.length (a.flatMap Tok.row) none)] [] fun r _=>r=vb true:=wi a fun x _=>by
 cases x;exact xp _ _ _
end Go.Proofs.YteffjmaadkkmeaaGreatDoor
set_option maxRecDepth 8000
namespace Go.Proofs.YteffjmaadkkmeaaGreatDoor
open Go Go.Dv
open Go.Vc (D eb ec dK bN)
section
variable {L:List Tok}
def Wt {α:Type} (m:PM α) (w:α→Nat) (c:Nat):Prop:=∀s x s',m s=some (x,s')→w x+64*s.a≤c+64*s'.a
theorem b8 (s:PS):(adv s).a=s.a+1:=rfl
theorem cD (s:PS):(fl s).a=s.a:=rfl
theorem bQ (c:Bool) (s:PS):s.a≤(must c s).a:=by unfold must;split<;>simp [adv,fl]
theorem lO (c:Bool) (s:PS):s.a≤(tkIf c s).a:=by unfold tkIf;split<;>simp [adv]
theorem jr (k:Int) (s:PS):s.a≤(mText L k s).2.a:=by unfold mText;split<;>simp [adv,fl]
theorem DA (s:PS):s.a≤(asM L s).2.a:=by
 unfold asM
 split
 ·have:=jr (L:=L) 2 (adv s);rw[b8] at this;omega
 ·exact Nat.le_refl _
theorem sR (s:PS):s.a≤(sourceM L s).2.a:=Nat.le_trans (jr (L:=L) 2 s) (DA _)
theorem sS (s:PS):ap (sourceM L s).1=2:=rfl
theorem BW (x:Source) (h:ap x=2) (e:Expr):ap (x.withOn [e])≤2+ae e:=by
 obtain⟨a,b,c⟩:=x
 simp only[Source.withOn,aP,aq]
 omega
theorem wj (s:PS):s.a≤(limitM L s).2.a:=by
 unfold limitM
 split
 ·have:=jr (L:=L) 3 (adv s);rw[b8] at this;show s.a≤(mText L 3 (adv s)).2.a;omega
 ·exact Nat.le_refl _
variable {f:Nat→PM Expr} {q:PM Query}
theorem Wt.chain {g:PM Expr} (hg:Wt g ae 8) (lv:Nat):∀(n:Nat) (e:Expr) (s:PS) (x:Expr) (s':PS),du L g lv n e s=some (x,s')→ae x+64*s.a≤ae e+64*s'.a
 |0,_,_,_,_,h=>by cases h
 |n+1,e,s,x,s',h=>by
  rw[du] at h
  split at h
  ·injection h with h;injection h with hx h;subst hx h;exact Nat.le_refl _
  ·split at h
   ·cases h
   ·rename_i y s1 h1
    have a1:=hg _ _ _ h1
    have a2:=Wt.chain hg lv n _ _ _ _ h
    (try simp only[bJ,eY,aZ,bM,cg,aK,aU,aX,aP,aI,aQ,aq,aJ,b8,cD] at *);omega
theorem Wt.sep {α:Type} {g:PM α} {w:α→Nat} {c:Nat} (hc:c≤64) (hg:Wt g w c):∀(n:Nat) (l:List α) (s:PS) (x:List α) (s':PS),eD L g n l s=some (x,s')→aq w x+64*s.a≤aq w l+64*s'.a
 |0,_,_,_,_,h=>by cases h
 |n+1,l,s,x,s',h=>by
  rw[eD] at h
  split at h
  ·split at h
   ·cases h
   ·rename_i y s1 h1
    have a1:=hg _ _ _ h1
    have a2:=Wt.sep hc hg n _ _ _ _ h
    (try simp only[bJ,eY,aZ,bM,cg,aK,aU,aX,aP,aI,aQ,aq,aJ,b8,cD] at *);omega
  ·injection h with h;injection h with hx h;subst hx h;exact Nat.le_refl _
theorem Wt.ors (hf:∀lv,Wt (f lv) ae 8):Wt (kx L f) (aq ae) 8:=fun s x s' h=>by
 unfold kx at h
 split at h
 ·cases h
 ·rename_i y s1 h1
  have a1:=hf 1 _ _ _ h1
  have a2:=Wt.sep (by omega) (hf 1) _ _ _ _ _ h
  (try simp only[bJ,eY,aZ,bM,cg,aK,aU,aX,aP,aI,aQ,aq,aJ,b8,cD] at *);omega
theorem Wt.inn (hf:∀lv,Wt (f lv) ae 8) (hq:Wt q aG 15) (e:Expr) (n:Bool) (s:PS) (x:Expr) (s':PS) (h:wI L f q e n s=some (x,s')):ae x+64*s.a≤ae e+40+64*s'.a:=by
 unfold wI at h
 simp only at h
 have m1:=bQ (be L s 40) s
 split at h
 ·split at h
  ·cases h
  ·rename_i y s1 h1
   injection h with h;injection h with hx h;subst hx h
   have a1:=hq _ _ _ h1
   have m2:=bQ (be L s1 41) s1
   (try simp only[bJ,eY,aZ,bM,cg,aK,aU,aX,aP,aI,aQ,aq,aJ,b8,cD] at *);omega
 ·split at h
  ·cases h
  ·rename_i y s1 h1
   injection h with h;injection h with hx h;subst hx h
   have a1:=Wt.ors hf _ _ _ h1
   have m2:=bQ (be L s1 41) s1
   (try simp only[bJ,eY,aZ,bM,cg,aK,aU,aX,aP,aI,aQ,aq,aJ,b8,cD] at *);omega
theorem Wt.cmpT (hf:∀lv,Wt (f lv) ae 8) (hq:Wt q aG 15) (e:Expr) (s:PS) (x:Expr) (s':PS) (h:cmpT L f q e s=some (x,s')):ae x+64*s.a≤ae e+64*s'.a:=by
 unfold Go.Proofs.YteffjmaadkkmeaaGreatDoor.cmpT at h
 simp only at h
 split at h
 ·injection h with h;injection h with hx h;subst hx h
  have m1:=lO (al L (adv s) 15) (adv s)
  have m2:=bQ (al L (tkIf (al L (adv s) 15) (adv s)) 20) (tkIf (al L (adv s) 15) (adv s))
  (try simp only[bJ,eY,aZ,bM,cg,aK,aU,aX,aP,aI,aQ,aq,aJ,b8,cD] at *);omega
 ·have m0:=lO (al L s 15) s
  split at h
  ·split at h
   ·cases h
   ·rename_i y s1 h1
    split at h
    ·cases h
    ·rename_i z s2 h2
     injection h with h;injection h with hx h;subst hx h
     have a1:=hf 5 _ _ _ h1
     have a2:=hf 5 _ _ _ h2
     have m2:=bQ (al L s1 13) s1
     (try simp only[bJ,eY,aZ,bM,cg,aK,aU,aX,aP,aI,aQ,aq,aJ,b8,cD] at *);omega
  ·split at h
   ·have a1:=Wt.inn hf hq e _ _ _ _ h
    (try simp only[bJ,eY,aZ,bM,cg,aK,aU,aX,aP,aI,aQ,aq,aJ,b8,cD] at *);omega
   ·injection h with h;injection h with hx h;subst hx h
    show ae e+64*s.a≤ae e+64*(tkIf (al L s 15) s).a
    omega
theorem Wt.cmp (hf:∀lv,Wt (f lv) ae 8) (hq:Wt q aG 15):Wt (mr L f q) ae 8:=fun s x s' h=>by
 unfold mr at h
 split at h
 ·cases h
 ·rename_i y s1 h1
  have a1:=hf 5 _ _ _ h1
  split at h
  ·have a2:=Wt.cmpT hf hq _ _ _ _ h
   omega
  ·split at h
   ·cases h
   ·rename_i z s2 h2
    injection h with h;injection h with hx h;subst hx h
    have a2:=hf 5 _ _ _ h2
    (try simp only[bJ,eY,aZ,bM,cg,aK,aU,aX,aP,aI,aQ,aq,aJ,b8,cD] at *);omega
theorem Wt.prim (hf:∀lv,Wt (f lv) ae 8) (hq:Wt q aG 15):Wt (gv L f q) ae 8:=fun s x s' h=>by
 unfold gv at h
 simp only at h
 split at h
 ·injection h with h;injection h with hx h;subst hx h;(try simp only[bJ,eY,aZ,bM,cg,aK,aU,aX,aP,aI,aQ,aq,aJ,b8,cD] at *);omega
 split at h
 ·injection h with h;injection h with hx h;subst hx h;(try simp only[bJ,eY,aZ,bM,cg,aK,aU,aX,aP,aI,aQ,aq,aJ,b8,cD] at *);omega
 split at h
 ·injection h with h;injection h with hx h;subst hx h;(try simp only[bJ,eY,aZ,bM,cg,aK,aU,aX,aP,aI,aQ,aq,aJ,b8,cD] at *);omega
 split at h
 ·injection h with h;injection h with hx h;subst hx h;(try simp only[bJ,eY,aZ,bM,cg,aK,aU,aX,aP,aI,aQ,aq,aJ,b8,cD] at *);omega
 split at h
 ·injection h with h;injection h with hx h;subst hx h;(try simp only[bJ,eY,aZ,bM,cg,aK,aU,aX,aP,aI,aQ,aq,aJ,b8,cD] at *);omega
 split at h
 ·split at h
  ·injection h with h;injection h with hx h;subst hx h
   have m1:=jr (L:=L) 2 (adv (adv s))
   (try simp only[bJ,eY,aZ,bM,cg,aK,aU,aX,aP,aI,aQ,aq,aJ,b8,cD] at *);omega
  ·injection h with h;injection h with hx h;subst hx h;(try simp only[bJ,eY,aZ,bM,cg,aK,aU,aX,aP,aI,aQ,aq,aJ,b8,cD] at *);omega
 split at h
 ·split at h
  ·cases h
  ·rename_i y s1 h1
   injection h with h;injection h with hx h;subst hx h
   have a1:=hf 1 _ _ _ h1
   have m1:=bQ (be L s1 41) s1
   (try simp only[bJ,eY,aZ,bM,cg,aK,aU,aX,aP,aI,aQ,aq,aJ,b8,cD] at *);omega
 split at h
 ·split at h
  ·cases h
  ·rename_i y s1 h1
   injection h with h;injection h with hx h;subst hx h
   have a1:=hq _ _ _ h1
   have m1:=bQ (be L (adv s) 40) (adv s)
   have m2:=bQ (be L s1 41) s1
   (try simp only[bJ,eY,aZ,bM,cg,aK,aU,aX,aP,aI,aQ,aq,aJ,b8,cD] at *);omega
 ·injection h with h;injection h with hx h;subst hx h;(try simp only[bJ,eY,aZ,bM,cg,aK,aU,aX,aP,aI,aQ,aq,aJ,b8,cD] at *);omega
theorem Wt.stepE (hf:∀lv,Wt (f lv) ae 8) (hq:Wt q aG 15) (lv:Nat):Wt (stepE L f q lv) ae 8:=fun s x s' h=>by
 unfold Go.Proofs.YteffjmaadkkmeaaGreatDoor.stepE at h
 split at h
 ·split at h
  ·split at h
   ·cases h
   ·rename_i y s1 h1
    injection h with h;injection h with hx h;subst hx h
    have a1:=hf 3 _ _ _ h1
    (try simp only[bJ,eY,aZ,bM,cg,aK,aU,aX,aP,aI,aQ,aq,aJ,b8,cD] at *);omega
  ·exact hf 4 _ _ _ h
 split at h
 ·exact Wt.cmp hf hq _ _ _ h
 split at h
 ·split at h
  ·split at h
   ·cases h
   ·rename_i y s1 h1
    injection h with h;injection h with hx h;subst hx h
    have a1:=hf 8 _ _ _ h1
    (try simp only[bJ,eY,aZ,bM,cg,aK,aU,aX,aP,aI,aQ,aq,aJ,b8,cD] at *);omega
  ·exact hf 9 _ _ _ h
 split at h
 ·exact Wt.prim hf hq _ _ _ h
 ·split at h
  ·cases h
  ·rename_i y s1 h1
   have a1:=hf _ _ _ _ h1
   have a2:=Wt.chain (hf _) lv _ _ _ _ _ h
   omega
theorem Wt.item (hf:∀lv,Wt (f lv) ae 8):Wt (fY L f) ay 11:=fun s x s' h=>by
 unfold fY at h
 split at h
 ·injection h with h;injection h with hx h;subst hx h;(try simp only[bJ,eY,aZ,bM,cg,aK,aU,aX,aP,aI,aQ,aq,aJ,b8,cD] at *);omega
 split at h
 ·injection h with h;injection h with hx h;subst hx h;(try simp only[bJ,eY,aZ,bM,cg,aK,aU,aX,aP,aI,aQ,aq,aJ,b8,cD] at *);omega
 split at h
 ·cases h
 ·rename_i y s1 h1
  injection h with h;injection h with hx h;subst hx h
  have a1:=hf 1 _ _ _ h1
  have m1:=DA (L:=L) s1
  have e:ay (.mk false z0 y (asM L s1).1)=3+ae y:=by
   obtain⟨a,b,c,d,e,f,g,h⟩:=y
   simp only[aX,aU];omega
  rw[e]
  omega
theorem Wt.sources (hf:∀lv,Wt (f lv) ae 8):∀(n:Nat) (l:List Source) (s:PS) (x:List Source) (s':PS),cN L f n l s=some (x,s')→aq ap x+64*s.a≤aq ap l+64*s'.a
 |0,_,_,_,_,h=>by cases h
 |n+1,l,s,x,s',h=>by
  rw[cN] at h
  have m1:=sR (L:=L) (adv s)
  have w1:=sS (L:=L) (adv s)
  split at h
  ·have a2:=Wt.sources hf n _ _ _ _ h
   (try simp only[bJ,eY,aZ,bM,cg,aK,aU,aX,aP,aI,aQ,aq,aJ,b8,cD] at *);omega
  simp only at h
  split at h
  ·split at h
   ·cases h
   ·rename_i y s1 h1
    have a1:=hf 1 _ _ _ h1
    have m2:=bQ (al L (sourceM L (adv s)).2 5) (sourceM L (adv s)).2
    have a2:=Wt.sources hf n _ _ _ _ h
    have w2:=BW _ w1 y
    (try simp only[bJ,eY,aZ,bM,cg,aK,aU,aX,aP,aI,aQ,aq,aJ,b8,cD] at *);omega
  ·injection h with h;injection h with hx h;subst hx h;exact Nat.le_refl _
theorem Wt.wher (hf:∀lv,Wt (f lv) ae 8):Wt (eM L f) (aq ae) 0:=fun s x s' h=>by
 unfold eM at h
 split at h
 ·split at h
  ·cases h
  ·rename_i y s1 h1
   injection h with h;injection h with hx h;subst hx h
   have a1:=hf 1 _ _ _ h1
   (try simp only[bJ,eY,aZ,bM,cg,aK,aU,aX,aP,aI,aQ,aq,aJ,b8,cD] at *);omega
 ·injection h with h;injection h with hx h;subst hx h;(try simp only[bJ,eY,aZ,bM,cg,aK,aU,aX,aP,aI,aQ,aq,aJ,b8,cD] at *);omega
theorem sT (e:Expr) (d:Bool):au (.mk e d)=1+ae e:=by
 obtain⟨a,b,c,d,e,f,g,h⟩:=e
 simp only[aI,aU];omega
theorem Wt.sort (hf:∀lv,Wt (f lv) ae 8):Wt (fZ L f) au 9:=fun s x s' h=>by
 unfold fZ at h
 split at h
 ·cases h
 ·rename_i y s1 h1
  have a1:=hf 1 _ _ _ h1
  split at h
  ·injection h with h;injection h with hx h;subst hx h
   rw[sT,b8]
   omega
  ·injection h with h;injection h with hx h;subst hx h
   have m1:=lO (al L s1 10) s1
   rw[sT]
   omega
theorem Wt.order (hf:∀lv,Wt (f lv) ae 8):Wt (g7 L f) (aq au) 0:=fun s x s' h=>by
 unfold g7 at h
 simp only at h
 split at h
 ·split at h
  ·cases h
  ·rename_i y s1 h1
   have m1:=bQ (al L (adv s) 8) (adv s)
   have a1:=Wt.sort hf _ _ _ h1
   have a2:=Wt.sep (by omega) (Wt.sort hf) _ _ _ _ _ h
   (try simp only[bJ,eY,aZ,bM,cg,aK,aU,aX,aP,aI,aQ,aq,aJ,b8,cD] at *);omega
 ·injection h with h;injection h with hx h;subst hx h;(try simp only[bJ,eY,aZ,bM,cg,aK,aU,aX,aP,aI,aQ,aq,aJ,b8,cD] at *);omega
theorem Wt.items (hf:∀lv,Wt (f lv) ae 8):Wt (gb L f) (aq ay) 11:=fun s x s' h=>by
 unfold gb at h
 split at h
 ·cases h
 ·rename_i y s1 h1
  have a1:=Wt.item hf _ _ _ h1
  have a2:=Wt.sep (by omega) (Wt.item hf) _ _ _ _ _ h
  (try simp only[bJ,eY,aZ,bM,cg,aK,aU,aX,aP,aI,aQ,aq,aJ,b8,cD] at *);omega
theorem Wt.stepQ (hf:∀lv,Wt (f lv) ae 8):Wt (stepQ L f) aG 15:=fun s x s' h=>by
 unfold Go.Proofs.YteffjmaadkkmeaaGreatDoor.stepQ at h
 simp only at h
 split at h
 ·cases h
 rename_i its s2 h1
 split at h
 ·cases h
 rename_i frs s4 h2
 split at h
 ·cases h
 rename_i wh s5 h3
 split at h
 ·cases h
 rename_i od s6 h4
 injection h with h;injection h with hx h;subst hx h
 have m1:=bQ (al L s 1) s
 have m2:=lO (al L (must (al L s 1) s) 2) (must (al L s 1) s)
 have a1:=Wt.items hf _ _ _ h1
 have m3:=bQ (al L s2 3) s2
 have m4:=sR (L:=L) (must (al L s2 3) s2)
 have w1:=sS (L:=L) (must (al L s2 3) s2)
 have a2:=Wt.sources hf _ _ _ _ _ h2
 have a3:=Wt.wher hf _ _ _ h3
 have a4:=Wt.order hf _ _ _ h4
 have m5:=wj (L:=L) s6
 (try simp only[bJ,eY,aZ,bM,cg,aK,aU,aX,aP,aI,aQ,aq,aJ,b8,cD] at *);omega
theorem qX:∀k,(∀lv,Wt ((pP L k).1 lv) ae 8)∧Wt (pP L k).2 aG 15
 |0=>⟨fun _ _ _ _ h=>(by cases h),fun _ _ _ h=>(by cases h)⟩
 |k+1=>⟨fun lv=>Wt.stepE (qX k).1 (qX k).2 lv,Wt.stepQ (qX k).1⟩
theorem EH (hL:L.length≤1048576):ae (cn L).1≤100000000:=by
 unfold cn
 cases h:iP L 1 s0 with
 |none=>exact (by decide:ae aK≤100000000)
 |some p=>
  obtain⟨x,s⟩:=p
  have h1:=(qX (L:=L) (pD L)).1 1 _ _ _ h
  have h2:=(ey (L:=L) 1 _ _ _ h).2.1 (Nat.zero_le _)
  unfold dC
  simp only
  split
  ·exact (by decide:ae aK≤100000000)
  ·show ae x≤_
   omega
theorem BX (hL:L.length≤1048576):aG (cu L).1≤100000000:=by
 unfold cu
 cases h:i7 L s0 with
 |none=>exact (by decide:aG ar≤100000000)
 |some p=>
  obtain⟨x,s⟩:=p
  have h1:=(qX (L:=L) (pD L)).2 _ _ _ h
  have h2:=(ez (L:=L) _ _ _ h).2.1 (Nat.zero_le _)
  unfold dC
  simp only
  split
  ·exact (by decide:aG ar≤100000000)
  ·show aG x≤_
   omega
end
end Go.Proofs.YteffjmaadkkmeaaGreatDoor
set_option maxRecDepth 8000
namespace Go.Proofs.YteffjmaadkkmeaaGreatDoor
open Go Go.Dv
open Go.Vc (D eb ec dK bN)
open Go.Cv
open Go.Vc (CellF ValsF aV)
def ue {α:Type} (fn:FuncId) (row:α→List D) (f:Int→α→α) (c:α→Nat) (es:List α):Prop:=
 ∀k:Int,0≤k→k+aq c es≤4611686018427387904→Cl Tryz.prog fn [.c (.sl es.length ((d5 f c k es).flatMap row) none),vi k] [] fun r _=>r=vi (k+aq c es)
def uf:Expr→Prop
 |.mk _ _ _ _ _ _ kids sub=>ue 51 Expr.row bV ae kids∧ue 52 Query.row d7 aG sub
def BZ:Item→Prop
 |.mk _ _ e _=>uf e
def wk:Source→Prop
 |.mk _ _ on=>ue 51 Expr.row bV ae on
def sU:SortKey→Prop
 |.mk e _=>uf e
def yL:Query→Prop
 |.mk _ items from_ where_ order _=>ue 61 Item.row ei ay items∧ue 62 Source.row cB ap from_∧ue 51 Expr.row bV ae where_∧ue 63 SortKey.row bR au order
set_option maxHeartbeats 8000000 in
theorem gt (es:List Expr) (hx:∀e∈es,uf e):ue 51 Expr.row bV ae es:=by
 intro k h0 hk
 obtain⟨ms,hms⟩:∃ms,ms=d5 bV ae k es:=⟨_,rfl⟩
 have hml:es.length=ms.length:=by rw[hms,am]
 rw[←hms,hml]
 refine ab aa false Tryz.func51 rfl (by kernel_rfl) ?_
 simp only[Tryz.f51,tt,seval]
 refine dLoop.intro (fun f L p=>∃i:Nat,f 5=vi i∧f 1=vi (k+aq ae (es.take i))∧i≤ms.length∧L=[]∧p=none) (fun f _ _=>(ms.length-bn (f 5)).toNat) [] none ⟨SubO.nil _,PoSub.none _,?_⟩ ?_
 ·simp only[tt,seval]
  exact⟨0,rfl,eX (by simp [aq]),by omega⟩
 ·rintro g L p ⟨i,h5,h1,hi,rfl,rfl⟩
  simp only[tt,seval] at h5 h1
  simp only[tt,seval,h5,h1,Int.ofNat_lt]
  refine fun _=>And.intro (fun hlt=>?_) (fun hge=>?_)
  ·have hlt:i<ms.length:=by omega
   have hlt':i<es.length:=by omega
   have hks:=bC ae es i hlt'
   have hkl:=bY ae es (i+1)
   have hx':ms[i]?=some (bV (k+aq ae (es.take i)) es[i]):=by rw[hms];exact jp _ _ _ _ _ hlt'
   generalize hk0:k+(aq ae (es.take i):Int)=k0 at *
   have hxe:=hx _ (List.getElem_mem hlt')
   obtain⟨e,he⟩:∃e,es[i]=e:=⟨_,rfl⟩
   rw[he] at hx' hks hxe
   obtain⟨kind,op,not,val,qual,name,kids,sub⟩:=e
   obtain⟨Hkids,Hsub⟩:=hxe
   rw[aU] at hks
   rw[sN] at hx'
   have i0:((0:Int)≤(i:Int))=True:=eq_true (by omega)
   have iL:((i:Int)<(ms.length:Int))=True:=eq_true (by omega)
   have iT:(i<ms.length)=True:=eq_true hlt
   simp only[tt,seval,h5,h1,aN hx' Expr.row_len,i0,iL,iT,am,Expr.row_mk,Val.row,lc,List.append_assoc]
   rw[ak (n:=k0+1) (by omega) (by omega)]
   generalize hk1:k0+1=k1 at *
   try simp only[tt,seval,h5,h1,aN hx' Expr.row_len,i0,iL,iT,am,Expr.row_mk,Val.row,lc,List.append_assoc]
   rw[ak (n:=k1+1) (by omega) (by omega)]
   generalize hk2:k1+1=k2 at *
   try simp only[tt,seval,h5,h1,aN hx' Expr.row_len,i0,iL,iT,am,Expr.row_mk,Val.row,lc,List.append_assoc]
   rw[ak (n:=k2+1) (by omega) (by omega)]
   generalize hk3:k2+1=k3 at *
   try simp only[tt,seval,h5,h1,aN hx' Expr.row_len,i0,iL,iT,am,Expr.row_mk,Val.row,lc,List.append_assoc]
   rw[ak (n:=k3+1) (by omega) (by omega)]
   generalize hk4:k3+1=k4 at *
   try simp only[tt,seval,h5,h1,aN hx' Expr.row_len,i0,iL,iT,am,Expr.row_mk,Val.row,lc,List.append_assoc]
   rw[ak (n:=k4+1) (by omega) (by omega)]
   generalize hk5:k4+1=k5 at *
   try simp only[tt,seval,h5,h1,aN hx' Expr.row_len,i0,iL,iT,am,Expr.row_mk,Val.row,lc,List.append_assoc]
   refine dDrawn.intro [] (gG [0,2,4,6,8,10,12,15,16]) (by kernel_rfl) ?_
   simp only[tt,seval]
   all_goals try simp only[tt,seval,h5,h1,aN hx' Expr.row_len,i0,iL,iT,am,Expr.row_mk,Val.row,lc,List.append_assoc]
   refine cZ (cI (k5) (by omega)) (by decide) ?_ ?_<;>simp only[tt,seval,h5,h1,aN hx' Expr.row_len,i0,iL,iT,am,Expr.row_mk,Val.row,lc,List.append_assoc]
   rw[ak (n:=k5+1) (by omega) (by omega)]
   generalize hk6:k5+1=k6 at *
   try simp only[tt,seval,h5,h1,aN hx' Expr.row_len,i0,iL,iT,am,Expr.row_mk,Val.row,lc,List.append_assoc]
   refine dDrawn.intro [] (gG [0,2,4,6,8,10,13,14]) (by kernel_rfl) ?_
   simp only[tt,seval]
   all_goals try simp only[tt,seval,h5,h1,aN hx' Expr.row_len,i0,iL,iT,am,Expr.row_mk,Val.row,lc,List.append_assoc]
   refine cZ (cI (k6) (by omega)) (by decide) ?_ ?_<;>simp only[tt,seval,h5,h1,aN hx' Expr.row_len,i0,iL,iT,am,Expr.row_mk,Val.row,lc,List.append_assoc]
   rw[ak (n:=k6+1) (by omega) (by omega)]
   generalize hk7:k6+1=k7 at *
   try simp only[tt,seval,h5,h1,aN hx' Expr.row_len,i0,iL,iT,am,Expr.row_mk,Val.row,lc,List.append_assoc]
   refine dDrawn.intro [] (gG [0,2,4,6,8,10,13,14]) (by kernel_rfl) ?_
   simp only[tt,seval]
   all_goals try simp only[tt,seval,h5,h1,aN hx' Expr.row_len,i0,iL,iT,am,Expr.row_mk,Val.row,lc,List.append_assoc]
   refine cZ (cI (k7) (by omega)) (by decide) ?_ ?_<;>simp only[tt,seval,h5,h1,aN hx' Expr.row_len,i0,iL,iT,am,Expr.row_mk,Val.row,lc,List.append_assoc]
   rw[ak (n:=k7+1) (by omega) (by omega)]
   generalize hk8:k7+1=k8 at *
   try simp only[tt,seval,h5,h1,aN hx' Expr.row_len,i0,iL,iT,am,Expr.row_mk,Val.row,lc,List.append_assoc]
   refine cZ (Hkids (k8) (by omega) (by omega)) (by decide) ?_ ?_<;>simp only[tt,seval,h5,h1,aN hx' Expr.row_len,i0,iL,iT,am,Expr.row_mk,Val.row,lc,List.append_assoc]
   have ng8:decide (k8+(aq ae kids:Int)<0)=false:=decide_eq_false (by omega)
   have np8:(k8+(aq ae kids:Int)<0)=False:=eq_false (by omega)
   try simp only[tt,seval,ng8,np8,h5,h1,aN hx' Expr.row_len,i0,iL,iT,am,Expr.row_mk,Val.row,lc,List.append_assoc]
   generalize hk9:k8+(aq ae kids:Int)=k9 at *
   refine cZ (Hsub (k9) (by omega) (by omega)) (by decide) ?_ ?_<;>simp only[tt,seval,h5,h1,aN hx' Expr.row_len,i0,iL,iT,am,Expr.row_mk,Val.row,lc,List.append_assoc]
   have ng9:decide (k9+(aq aG sub:Int)<0)=false:=decide_eq_false (by omega)
   have np9:(k9+(aq aG sub:Int)<0)=False:=eq_false (by omega)
   try simp only[tt,seval,ng9,np9,h5,h1,aN hx' Expr.row_len,i0,iL,iT,am,Expr.row_mk,Val.row,lc,List.append_assoc]
   generalize hk10:k9+(aq aG sub:Int)=k10 at *
   rw[eE i (by omega)]
   exact⟨[],none,SubO.nil _,PoSub.none _,⟨i+1,rfl,eX (by rw[hks];omega),by omega,rfl,rfl⟩,by simp only[bn];omega⟩
  ·have:i=es.length:=by omega
   subst this
   rw[List.take_length] at h1
   refine⟨_,_,?_,ac rfl⟩
   first|rfl|(rw[List.take_length])|simp only[List.take_length]
set_option maxHeartbeats 8000000 in
theorem lP (es:List Item) (hx:∀e∈es,BZ e):ue 61 Item.row ei ay es:=by
 intro k h0 hk
 obtain⟨ms,hms⟩:∃ms,ms=d5 ei ay k es:=⟨_,rfl⟩
 have hml:es.length=ms.length:=by rw[hms,am]
 rw[←hms,hml]
 refine ab aa false Tryz.func61 rfl (by kernel_rfl) ?_
 simp only[Tryz.f61,tt,seval]
 refine dLoop.intro (fun f L p=>∃i:Nat,f 5=vi i∧f 1=vi (k+aq ay (es.take i))∧i≤ms.length∧L=[]∧p=none) (fun f _ _=>(ms.length-bn (f 5)).toNat) [] none ⟨SubO.nil _,PoSub.none _,?_⟩ ?_
 ·simp only[tt,seval]
  exact⟨0,rfl,eX (by simp [aq]),by omega⟩
 ·rintro g L p ⟨i,h5,h1,hi,rfl,rfl⟩
  simp only[tt,seval] at h5 h1
  simp only[tt,seval,h5,h1,Int.ofNat_lt]
  refine fun _=>And.intro (fun hlt=>?_) (fun hge=>?_)
  ·have hlt:i<ms.length:=by omega
   have hlt':i<es.length:=by omega
   have hks:=bC ay es i hlt'
   have hkl:=bY ay es (i+1)
   have hx':ms[i]?=some (ei (k+aq ay (es.take i)) es[i]):=by rw[hms];exact jp _ _ _ _ _ hlt'
   generalize hk0:k+(aq ay (es.take i):Int)=k0 at *
   have hxe:=hx _ (List.getElem_mem hlt')
   obtain⟨e,he⟩:∃e,es[i]=e:=⟨_,rfl⟩
   rw[he] at hx' hks hxe
   obtain⟨star,qual,⟨e_kind,e_op,e_not,e_val,e_qual,e_name,e_kids,e_sub⟩,as_⟩:=e
   obtain⟨He_kids,He_sub⟩:=hxe
   rw[aX] at hks
   rw[sO] at hx'
   have i0:((0:Int)≤(i:Int))=True:=eq_true (by omega)
   have iL:((i:Int)<(ms.length:Int))=True:=eq_true (by omega)
   have iT:(i<ms.length)=True:=eq_true hlt
   simp only[tt,seval,h5,h1,aN hx' Item.row_len,i0,iL,iT,am,Item.row_mk,Expr.row_mk,Val.row,lc,List.append_assoc]
   rw[ak (n:=k0+1) (by omega) (by omega)]
   generalize hk1:k0+1=k1 at *
   try simp only[tt,seval,h5,h1,aN hx' Item.row_len,i0,iL,iT,am,Item.row_mk,Expr.row_mk,Val.row,lc,List.append_assoc]
   refine dDrawn.intro [] (gG [0,2,4,6,8,10,13,14]) (by kernel_rfl) ?_
   simp only[tt,seval]
   all_goals try simp only[tt,seval,h5,h1,aN hx' Item.row_len,i0,iL,iT,am,Item.row_mk,Expr.row_mk,Val.row,lc,List.append_assoc]
   refine cZ (cI (k1) (by omega)) (by decide) ?_ ?_<;>simp only[tt,seval,h5,h1,aN hx' Item.row_len,i0,iL,iT,am,Item.row_mk,Expr.row_mk,Val.row,lc,List.append_assoc]
   rw[ak (n:=k1+1) (by omega) (by omega)]
   generalize hk2:k1+1=k2 at *
   try simp only[tt,seval,h5,h1,aN hx' Item.row_len,i0,iL,iT,am,Item.row_mk,Expr.row_mk,Val.row,lc,List.append_assoc]
   rw[ak (n:=k2+1) (by omega) (by omega)]
   generalize hk3:k2+1=k3 at *
   try simp only[tt,seval,h5,h1,aN hx' Item.row_len,i0,iL,iT,am,Item.row_mk,Expr.row_mk,Val.row,lc,List.append_assoc]
   rw[ak (n:=k3+1) (by omega) (by omega)]
   generalize hk4:k3+1=k4 at *
   try simp only[tt,seval,h5,h1,aN hx' Item.row_len,i0,iL,iT,am,Item.row_mk,Expr.row_mk,Val.row,lc,List.append_assoc]
   rw[ak (n:=k4+1) (by omega) (by omega)]
   generalize hk5:k4+1=k5 at *
   try simp only[tt,seval,h5,h1,aN hx' Item.row_len,i0,iL,iT,am,Item.row_mk,Expr.row_mk,Val.row,lc,List.append_assoc]
   rw[ak (n:=k5+1) (by omega) (by omega)]
   generalize hk6:k5+1=k6 at *
   try simp only[tt,seval,h5,h1,aN hx' Item.row_len,i0,iL,iT,am,Item.row_mk,Expr.row_mk,Val.row,lc,List.append_assoc]
   rw[ak (n:=k6+1) (by omega) (by omega)]
   generalize hk7:k6+1=k7 at *
   try simp only[tt,seval,h5,h1,aN hx' Item.row_len,i0,iL,iT,am,Item.row_mk,Expr.row_mk,Val.row,lc,List.append_assoc]
   refine dDrawn.intro [] (gG [0,2,4,6,8,10,12,14,17,18]) (by kernel_rfl) ?_
   simp only[tt,seval]
   all_goals try simp only[tt,seval,h5,h1,aN hx' Item.row_len,i0,iL,iT,am,Item.row_mk,Expr.row_mk,Val.row,lc,List.append_assoc]
   refine cZ (cI (k7) (by omega)) (by decide) ?_ ?_<;>simp only[tt,seval,h5,h1,aN hx' Item.row_len,i0,iL,iT,am,Item.row_mk,Expr.row_mk,Val.row,lc,List.append_assoc]
   rw[ak (n:=k7+1) (by omega) (by omega)]
   generalize hk8:k7+1=k8 at *
   try simp only[tt,seval,h5,h1,aN hx' Item.row_len,i0,iL,iT,am,Item.row_mk,Expr.row_mk,Val.row,lc,List.append_assoc]
   refine dDrawn.intro [] (gG [0,2,4,6,8,10,12,15,16]) (by kernel_rfl) ?_
   simp only[tt,seval]
   all_goals try simp only[tt,seval,h5,h1,aN hx' Item.row_len,i0,iL,iT,am,Item.row_mk,Expr.row_mk,Val.row,lc,List.append_assoc]
   refine cZ (cI (k8) (by omega)) (by decide) ?_ ?_<;>simp only[tt,seval,h5,h1,aN hx' Item.row_len,i0,iL,iT,am,Item.row_mk,Expr.row_mk,Val.row,lc,List.append_assoc]
   rw[ak (n:=k8+1) (by omega) (by omega)]
   generalize hk9:k8+1=k9 at *
   try simp only[tt,seval,h5,h1,aN hx' Item.row_len,i0,iL,iT,am,Item.row_mk,Expr.row_mk,Val.row,lc,List.append_assoc]
   refine dDrawn.intro [] (gG [0,2,4,6,8,10,12,15,16]) (by kernel_rfl) ?_
   simp only[tt,seval]
   all_goals try simp only[tt,seval,h5,h1,aN hx' Item.row_len,i0,iL,iT,am,Item.row_mk,Expr.row_mk,Val.row,lc,List.append_assoc]
   refine cZ (cI (k9) (by omega)) (by decide) ?_ ?_<;>simp only[tt,seval,h5,h1,aN hx' Item.row_len,i0,iL,iT,am,Item.row_mk,Expr.row_mk,Val.row,lc,List.append_assoc]
   rw[ak (n:=k9+1) (by omega) (by omega)]
   generalize hk10:k9+1=k10 at *
   try simp only[tt,seval,h5,h1,aN hx' Item.row_len,i0,iL,iT,am,Item.row_mk,Expr.row_mk,Val.row,lc,List.append_assoc]
   refine cZ (He_kids (k10) (by omega) (by omega)) (by decide) ?_ ?_<;>simp only[tt,seval,h5,h1,aN hx' Item.row_len,i0,iL,iT,am,Item.row_mk,Expr.row_mk,Val.row,lc,List.append_assoc]
   have ng10:decide (k10+(aq ae e_kids:Int)<0)=false:=decide_eq_false (by omega)
   have np10:(k10+(aq ae e_kids:Int)<0)=False:=eq_false (by omega)
   try simp only[tt,seval,ng10,np10,h5,h1,aN hx' Item.row_len,i0,iL,iT,am,Item.row_mk,Expr.row_mk,Val.row,lc,List.append_assoc]
   generalize hk11:k10+(aq ae e_kids:Int)=k11 at *
   refine cZ (He_sub (k11) (by omega) (by omega)) (by decide) ?_ ?_<;>simp only[tt,seval,h5,h1,aN hx' Item.row_len,i0,iL,iT,am,Item.row_mk,Expr.row_mk,Val.row,lc,List.append_assoc]
   have ng11:decide (k11+(aq aG e_sub:Int)<0)=false:=decide_eq_false (by omega)
   have np11:(k11+(aq aG e_sub:Int)<0)=False:=eq_false (by omega)
   try simp only[tt,seval,ng11,np11,h5,h1,aN hx' Item.row_len,i0,iL,iT,am,Item.row_mk,Expr.row_mk,Val.row,lc,List.append_assoc]
   generalize hk12:k11+(aq aG e_sub:Int)=k12 at *
   refine dDrawn.intro [] (gG [0,2,4,6,8,10,13,14]) (by kernel_rfl) ?_
   simp only[tt,seval]
   all_goals try simp only[tt,seval,h5,h1,aN hx' Item.row_len,i0,iL,iT,am,Item.row_mk,Expr.row_mk,Val.row,lc,List.append_assoc]
   refine cZ (cI (k12) (by omega)) (by decide) ?_ ?_<;>simp only[tt,seval,h5,h1,aN hx' Item.row_len,i0,iL,iT,am,Item.row_mk,Expr.row_mk,Val.row,lc,List.append_assoc]
   rw[ak (n:=k12+1) (by omega) (by omega)]
   generalize hk13:k12+1=k13 at *
   try simp only[tt,seval,h5,h1,aN hx' Item.row_len,i0,iL,iT,am,Item.row_mk,Expr.row_mk,Val.row,lc,List.append_assoc]
   rw[eE i (by omega)]
   exact⟨[],none,SubO.nil _,PoSub.none _,⟨i+1,rfl,eX (by rw[hks];omega),by omega,rfl,rfl⟩,by simp only[bn];omega⟩
  ·have:i=es.length:=by omega
   subst this
   rw[List.take_length] at h1
   refine⟨_,_,?_,ac rfl⟩
   first|rfl|(rw[List.take_length])|simp only[List.take_length]
set_option maxHeartbeats 8000000 in
theorem kX (es:List Query) (hx:∀e∈es,yL e):ue 52 Query.row d7 aG es:=by
 intro k h0 hk
 obtain⟨ms,hms⟩:∃ms,ms=d5 d7 aG k es:=⟨_,rfl⟩
 have hml:es.length=ms.length:=by rw[hms,am]
 rw[←hms,hml]
 refine ab aa false Tryz.func52 rfl (by kernel_rfl) ?_
 simp only[Tryz.f52,tt,seval]
 refine dLoop.intro (fun f L p=>∃i:Nat,f 5=vi i∧f 1=vi (k+aq aG (es.take i))∧i≤ms.length∧L=[]∧p=none) (fun f _ _=>(ms.length-bn (f 5)).toNat) [] none ⟨SubO.nil _,PoSub.none _,?_⟩ ?_
 ·simp only[tt,seval]
  exact⟨0,rfl,eX (by simp [aq]),by omega⟩
 ·rintro g L p ⟨i,h5,h1,hi,rfl,rfl⟩
  simp only[tt,seval] at h5 h1
  simp only[tt,seval,h5,h1,Int.ofNat_lt]
  refine fun _=>And.intro (fun hlt=>?_) (fun hge=>?_)
  ·have hlt:i<ms.length:=by omega
   have hlt':i<es.length:=by omega
   have hks:=bC aG es i hlt'
   have hkl:=bY aG es (i+1)
   have hx':ms[i]?=some (d7 (k+aq aG (es.take i)) es[i]):=by rw[hms];exact jp _ _ _ _ _ hlt'
   generalize hk0:k+(aq aG (es.take i):Int)=k0 at *
   have hxe:=hx _ (List.getElem_mem hlt')
   obtain⟨e,he⟩:∃e,es[i]=e:=⟨_,rfl⟩
   rw[he] at hx' hks hxe
   obtain⟨distinct,items,from_,where_,order,limit⟩:=e
   obtain⟨Hitems,Hfrom_,Hwhere_,Horder⟩:=hxe
   rw[aQ] at hks
   rw[qU] at hx'
   have i0:((0:Int)≤(i:Int))=True:=eq_true (by omega)
   have iL:((i:Int)<(ms.length:Int))=True:=eq_true (by omega)
   have iT:(i<ms.length)=True:=eq_true hlt
   simp only[tt,seval,h5,h1,aN hx' Query.row_len,i0,iL,iT,am,Query.row_mk,Val.row,lc,List.append_assoc]
   rw[ak (n:=k0+1) (by omega) (by omega)]
   generalize hk1:k0+1=k1 at *
   try simp only[tt,seval,h5,h1,aN hx' Query.row_len,i0,iL,iT,am,Query.row_mk,Val.row,lc,List.append_assoc]
   refine cZ (Hitems (k1) (by omega) (by omega)) (by decide) ?_ ?_<;>simp only[tt,seval,h5,h1,aN hx' Query.row_len,i0,iL,iT,am,Query.row_mk,Val.row,lc,List.append_assoc]
   have ng1:decide (k1+(aq ay items:Int)<0)=false:=decide_eq_false (by omega)
   have np1:(k1+(aq ay items:Int)<0)=False:=eq_false (by omega)
   try simp only[tt,seval,ng1,np1,h5,h1,aN hx' Query.row_len,i0,iL,iT,am,Query.row_mk,Val.row,lc,List.append_assoc]
   generalize hk2:k1+(aq ay items:Int)=k2 at *
   refine cZ (Hfrom_ (k2) (by omega) (by omega)) (by decide) ?_ ?_<;>simp only[tt,seval,h5,h1,aN hx' Query.row_len,i0,iL,iT,am,Query.row_mk,Val.row,lc,List.append_assoc]
   have ng2:decide (k2+(aq ap from_:Int)<0)=false:=decide_eq_false (by omega)
   have np2:(k2+(aq ap from_:Int)<0)=False:=eq_false (by omega)
   try simp only[tt,seval,ng2,np2,h5,h1,aN hx' Query.row_len,i0,iL,iT,am,Query.row_mk,Val.row,lc,List.append_assoc]
   generalize hk3:k2+(aq ap from_:Int)=k3 at *
   refine cZ (Hwhere_ (k3) (by omega) (by omega)) (by decide) ?_ ?_<;>simp only[tt,seval,h5,h1,aN hx' Query.row_len,i0,iL,iT,am,Query.row_mk,Val.row,lc,List.append_assoc]
   have ng3:decide (k3+(aq ae where_:Int)<0)=false:=decide_eq_false (by omega)
   have np3:(k3+(aq ae where_:Int)<0)=False:=eq_false (by omega)
   try simp only[tt,seval,ng3,np3,h5,h1,aN hx' Query.row_len,i0,iL,iT,am,Query.row_mk,Val.row,lc,List.append_assoc]
   generalize hk4:k3+(aq ae where_:Int)=k4 at *
   refine cZ (Horder (k4) (by omega) (by omega)) (by decide) ?_ ?_<;>simp only[tt,seval,h5,h1,aN hx' Query.row_len,i0,iL,iT,am,Query.row_mk,Val.row,lc,List.append_assoc]
   have ng4:decide (k4+(aq au order:Int)<0)=false:=decide_eq_false (by omega)
   have np4:(k4+(aq au order:Int)<0)=False:=eq_false (by omega)
   try simp only[tt,seval,ng4,np4,h5,h1,aN hx' Query.row_len,i0,iL,iT,am,Query.row_mk,Val.row,lc,List.append_assoc]
   generalize hk5:k4+(aq au order:Int)=k5 at *
   rw[ak (n:=k5+1) (by omega) (by omega)]
   generalize hk6:k5+1=k6 at *
   try simp only[tt,seval,h5,h1,aN hx' Query.row_len,i0,iL,iT,am,Query.row_mk,Val.row,lc,List.append_assoc]
   rw[eE i (by omega)]
   exact⟨[],none,SubO.nil _,PoSub.none _,⟨i+1,rfl,eX (by rw[hks];omega),by omega,rfl,rfl⟩,by simp only[bn];omega⟩
  ·have:i=es.length:=by omega
   subst this
   rw[List.take_length] at h1
   refine⟨_,_,?_,ac rfl⟩
   first|rfl|(rw[List.take_length])|simp only[List.take_length]
set_option maxHeartbeats 8000000 in
theorem jt (es:List SortKey) (hx:∀e∈es,sU e):ue 63 SortKey.row bR au es:=by
 intro k h0 hk
 obtain⟨ms,hms⟩:∃ms,ms=d5 bR au k es:=⟨_,rfl⟩
 have hml:es.length=ms.length:=by rw[hms,am]
 rw[←hms,hml]
 refine ab aa false Tryz.func63 rfl (by kernel_rfl) ?_
 simp only[Tryz.f63,tt,seval]
 refine dLoop.intro (fun f L p=>∃i:Nat,f 5=vi i∧f 1=vi (k+aq au (es.take i))∧i≤ms.length∧L=[]∧p=none) (fun f _ _=>(ms.length-bn (f 5)).toNat) [] none ⟨SubO.nil _,PoSub.none _,?_⟩ ?_
 ·simp only[tt,seval]
  exact⟨0,rfl,eX (by simp [aq]),by omega⟩
 ·rintro g L p ⟨i,h5,h1,hi,rfl,rfl⟩
  simp only[tt,seval] at h5 h1
  simp only[tt,seval,h5,h1,Int.ofNat_lt]
  refine fun _=>And.intro (fun hlt=>?_) (fun hge=>?_)
  ·have hlt:i<ms.length:=by omega
   have hlt':i<es.length:=by omega
   have hks:=bC au es i hlt'
   have hkl:=bY au es (i+1)
   have hx':ms[i]?=some (bR (k+aq au (es.take i)) es[i]):=by rw[hms];exact jp _ _ _ _ _ hlt'
   generalize hk0:k+(aq au (es.take i):Int)=k0 at *
   have hxe:=hx _ (List.getElem_mem hlt')
   obtain⟨e,he⟩:∃e,es[i]=e:=⟨_,rfl⟩
   rw[he] at hx' hks hxe
   obtain⟨⟨e_kind,e_op,e_not,e_val,e_qual,e_name,e_kids,e_sub⟩,desc⟩:=e
   obtain⟨He_kids,He_sub⟩:=hxe
   rw[aI] at hks
   rw[ou] at hx'
   have i0:((0:Int)≤(i:Int))=True:=eq_true (by omega)
   have iL:((i:Int)<(ms.length:Int))=True:=eq_true (by omega)
   have iT:(i<ms.length)=True:=eq_true hlt
   simp only[tt,seval,h5,h1,aN hx' SortKey.row_len,i0,iL,iT,am,SortKey.row_mk,Expr.row_mk,Val.row,lc,List.append_assoc]
   rw[ak (n:=k0+1) (by omega) (by omega)]
   generalize hk1:k0+1=k1 at *
   try simp only[tt,seval,h5,h1,aN hx' SortKey.row_len,i0,iL,iT,am,SortKey.row_mk,Expr.row_mk,Val.row,lc,List.append_assoc]
   rw[ak (n:=k1+1) (by omega) (by omega)]
   generalize hk2:k1+1=k2 at *
   try simp only[tt,seval,h5,h1,aN hx' SortKey.row_len,i0,iL,iT,am,SortKey.row_mk,Expr.row_mk,Val.row,lc,List.append_assoc]
   rw[ak (n:=k2+1) (by omega) (by omega)]
   generalize hk3:k2+1=k3 at *
   try simp only[tt,seval,h5,h1,aN hx' SortKey.row_len,i0,iL,iT,am,SortKey.row_mk,Expr.row_mk,Val.row,lc,List.append_assoc]
   rw[ak (n:=k3+1) (by omega) (by omega)]
   generalize hk4:k3+1=k4 at *
   try simp only[tt,seval,h5,h1,aN hx' SortKey.row_len,i0,iL,iT,am,SortKey.row_mk,Expr.row_mk,Val.row,lc,List.append_assoc]
   rw[ak (n:=k4+1) (by omega) (by omega)]
   generalize hk5:k4+1=k5 at *
   try simp only[tt,seval,h5,h1,aN hx' SortKey.row_len,i0,iL,iT,am,SortKey.row_mk,Expr.row_mk,Val.row,lc,List.append_assoc]
   refine dDrawn.intro [] (gG [0,2,4,6,8,10,12,14,17,18]) (by kernel_rfl) ?_
   simp only[tt,seval]
   all_goals try simp only[tt,seval,h5,h1,aN hx' SortKey.row_len,i0,iL,iT,am,SortKey.row_mk,Expr.row_mk,Val.row,lc,List.append_assoc]
   refine cZ (cI (k5) (by omega)) (by decide) ?_ ?_<;>simp only[tt,seval,h5,h1,aN hx' SortKey.row_len,i0,iL,iT,am,SortKey.row_mk,Expr.row_mk,Val.row,lc,List.append_assoc]
   rw[ak (n:=k5+1) (by omega) (by omega)]
   generalize hk6:k5+1=k6 at *
   try simp only[tt,seval,h5,h1,aN hx' SortKey.row_len,i0,iL,iT,am,SortKey.row_mk,Expr.row_mk,Val.row,lc,List.append_assoc]
   refine dDrawn.intro [] (gG [0,2,4,6,8,10,12,15,16]) (by kernel_rfl) ?_
   simp only[tt,seval]
   all_goals try simp only[tt,seval,h5,h1,aN hx' SortKey.row_len,i0,iL,iT,am,SortKey.row_mk,Expr.row_mk,Val.row,lc,List.append_assoc]
   refine cZ (cI (k6) (by omega)) (by decide) ?_ ?_<;>simp only[tt,seval,h5,h1,aN hx' SortKey.row_len,i0,iL,iT,am,SortKey.row_mk,Expr.row_mk,Val.row,lc,List.append_assoc]
   rw[ak (n:=k6+1) (by omega) (by omega)]
   generalize hk7:k6+1=k7 at *
   try simp only[tt,seval,h5,h1,aN hx' SortKey.row_len,i0,iL,iT,am,SortKey.row_mk,Expr.row_mk,Val.row,lc,List.append_assoc]
   refine dDrawn.intro [] (gG [0,2,4,6,8,10,12,15,16]) (by kernel_rfl) ?_
   simp only[tt,seval]
   all_goals try simp only[tt,seval,h5,h1,aN hx' SortKey.row_len,i0,iL,iT,am,SortKey.row_mk,Expr.row_mk,Val.row,lc,List.append_assoc]
   refine cZ (cI (k7) (by omega)) (by decide) ?_ ?_<;>simp only[tt,seval,h5,h1,aN hx' SortKey.row_len,i0,iL,iT,am,SortKey.row_mk,Expr.row_mk,Val.row,lc,List.append_assoc]
   rw[ak (n:=k7+1) (by omega) (by omega)]
   generalize hk8:k7+1=k8 at *
   try simp only[tt,seval,h5,h1,aN hx' SortKey.row_len,i0,iL,iT,am,SortKey.row_mk,Expr.row_mk,Val.row,lc,List.append_assoc]
   refine cZ (He_kids (k8) (by omega) (by omega)) (by decide) ?_ ?_<;>simp only[tt,seval,h5,h1,aN hx' SortKey.row_len,i0,iL,iT,am,SortKey.row_mk,Expr.row_mk,Val.row,lc,List.append_assoc]
   have ng8:decide (k8+(aq ae e_kids:Int)<0)=false:=decide_eq_false (by omega)
   have np8:(k8+(aq ae e_kids:Int)<0)=False:=eq_false (by omega)
   try simp only[tt,seval,ng8,np8,h5,h1,aN hx' SortKey.row_len,i0,iL,iT,am,SortKey.row_mk,Expr.row_mk,Val.row,lc,List.append_assoc]
   generalize hk9:k8+(aq ae e_kids:Int)=k9 at *
   refine cZ (He_sub (k9) (by omega) (by omega)) (by decide) ?_ ?_<;>simp only[tt,seval,h5,h1,aN hx' SortKey.row_len,i0,iL,iT,am,SortKey.row_mk,Expr.row_mk,Val.row,lc,List.append_assoc]
   have ng9:decide (k9+(aq aG e_sub:Int)<0)=false:=decide_eq_false (by omega)
   have np9:(k9+(aq aG e_sub:Int)<0)=False:=eq_false (by omega)
   try simp only[tt,seval,ng9,np9,h5,h1,aN hx' SortKey.row_len,i0,iL,iT,am,SortKey.row_mk,Expr.row_mk,Val.row,lc,List.append_assoc]
   generalize hk10:k9+(aq aG e_sub:Int)=k10 at *
   rw[ak (n:=k10+1) (by omega) (by omega)]
   generalize hk11:k10+1=k11 at *
   try simp only[tt,seval,h5,h1,aN hx' SortKey.row_len,i0,iL,iT,am,SortKey.row_mk,Expr.row_mk,Val.row,lc,List.append_assoc]
   rw[eE i (by omega)]
   exact⟨[],none,SubO.nil _,PoSub.none _,⟨i+1,rfl,eX (by rw[hks];omega),by omega,rfl,rfl⟩,by simp only[bn];omega⟩
  ·have:i=es.length:=by omega
   subst this
   rw[List.take_length] at h1
   refine⟨_,_,?_,ac rfl⟩
   first|rfl|(rw[List.take_length])|simp only[List.take_length]
set_option maxHeartbeats 8000000 in
theorem kj (es:List Source) (hx:∀e∈es,wk e):ue 62 Source.row cB ap es:=by
 intro k h0 hk
 obtain⟨ms,hms⟩:∃ms,ms=d5 cB ap k es:=⟨_,rfl⟩
 have hml:es.length=ms.length:=by rw[hms,am]
 rw[←hms,hml]
 refine ab aa false Tryz.func62 rfl (by kernel_rfl) ?_
 simp only[Tryz.f62,tt,seval]
 refine dLoop.intro (fun f L p=>∃i:Nat,f 5=vi i∧f 1=vi (k+aq ap (es.take i))∧i≤ms.length∧L=[]∧p=none) (fun f _ _=>(ms.length-bn (f 5)).toNat) [] none ⟨SubO.nil _,PoSub.none _,?_⟩ ?_
 ·simp only[tt,seval]
  exact⟨0,rfl,eX (by simp [aq]),by omega⟩
 ·rintro g L p ⟨i,h5,h1,hi,rfl,rfl⟩
  simp only[tt,seval] at h5 h1
  simp only[tt,seval,h5,h1,Int.ofNat_lt]
  refine fun _=>And.intro (fun hlt=>?_) (fun hge=>?_)
  ·have hlt:i<ms.length:=by omega
   have hlt':i<es.length:=by omega
   have hks:=bC ap es i hlt'
   have hkl:=bY ap es (i+1)
   have hx':ms[i]?=some (cB (k+aq ap (es.take i)) es[i]):=by rw[hms];exact jp _ _ _ _ _ hlt'
   generalize hk0:k+(aq ap (es.take i):Int)=k0 at *
   have hxe:=hx _ (List.getElem_mem hlt')
   obtain⟨e,he⟩:∃e,es[i]=e:=⟨_,rfl⟩
   rw[he] at hx' hks hxe
   obtain⟨table,as_,on⟩:=e
   have Hon:=hxe
   rw[aP] at hks
   rw[pr] at hx'
   have i0:((0:Int)≤(i:Int))=True:=eq_true (by omega)
   have iL:((i:Int)<(ms.length:Int))=True:=eq_true (by omega)
   have iT:(i<ms.length)=True:=eq_true hlt
   simp only[tt,seval,h5,h1,aN hx' Source.row_len,i0,iL,iT,am,Source.row_mk,Val.row,lc,List.append_assoc]
   refine dDrawn.intro [] (gG [0,2,4,6,8,10,13,14]) (by kernel_rfl) ?_
   simp only[tt,seval]
   all_goals try simp only[tt,seval,h5,h1,aN hx' Source.row_len,i0,iL,iT,am,Source.row_mk,Val.row,lc,List.append_assoc]
   refine cZ (cI (k0) (by omega)) (by decide) ?_ ?_<;>simp only[tt,seval,h5,h1,aN hx' Source.row_len,i0,iL,iT,am,Source.row_mk,Val.row,lc,List.append_assoc]
   rw[ak (n:=k0+1) (by omega) (by omega)]
   generalize hk1:k0+1=k1 at *
   try simp only[tt,seval,h5,h1,aN hx' Source.row_len,i0,iL,iT,am,Source.row_mk,Val.row,lc,List.append_assoc]
   refine dDrawn.intro [] (gG [0,2,4,6,8,10,13,14]) (by kernel_rfl) ?_
   simp only[tt,seval]
   all_goals try simp only[tt,seval,h5,h1,aN hx' Source.row_len,i0,iL,iT,am,Source.row_mk,Val.row,lc,List.append_assoc]
   refine cZ (cI (k1) (by omega)) (by decide) ?_ ?_<;>simp only[tt,seval,h5,h1,aN hx' Source.row_len,i0,iL,iT,am,Source.row_mk,Val.row,lc,List.append_assoc]
   rw[ak (n:=k1+1) (by omega) (by omega)]
   generalize hk2:k1+1=k2 at *
   try simp only[tt,seval,h5,h1,aN hx' Source.row_len,i0,iL,iT,am,Source.row_mk,Val.row,lc,List.append_assoc]
   refine cZ (Hon (k2) (by omega) (by omega)) (by decide) ?_ ?_<;>simp only[tt,seval,h5,h1,aN hx' Source.row_len,i0,iL,iT,am,Source.row_mk,Val.row,lc,List.append_assoc]
   have ng2:decide (k2+(aq ae on:Int)<0)=false:=decide_eq_false (by omega)
   have np2:(k2+(aq ae on:Int)<0)=False:=eq_false (by omega)
   try simp only[tt,seval,ng2,np2,h5,h1,aN hx' Source.row_len,i0,iL,iT,am,Source.row_mk,Val.row,lc,List.append_assoc]
   generalize hk3:k2+(aq ae on:Int)=k3 at *
   rw[eE i (by omega)]
   exact⟨[],none,SubO.nil _,PoSub.none _,⟨i+1,rfl,eX (by rw[hks];omega),by omega,rfl,rfl⟩,by simp only[bn];omega⟩
  ·have:i=es.length:=by omega
   subst this
   rw[List.take_length] at h1
   refine⟨_,_,?_,ac rfl⟩
   first|rfl|(rw[List.take_length])|simp only[List.take_length]
theorem j7:(∀a:Expr,uf a)∧(∀a:Item,BZ a)∧(∀a:Source,wk a)∧(∀a:SortKey,sU a)∧(∀a:Query,yL a):=by
 refine Expr.ind ?_ ?_ ?_ ?_ ?_
 ·intro kind op not val qual name kids sub hkids hsub
  exact⟨gt _ hkids,kX _ hsub⟩
 ·intro star qual e as_ he
  exact he
 ·intro table as_ on hon
  exact gt _ hon
 ·intro e desc he
  exact he
 ·intro distinct items from_ where_ order limit hitems hfrom_ hwhere_ horder
  exact⟨lP _ hitems,kj _ hfrom_,gt _ hwhere_,jt _ horder⟩
theorem hD (es:List Expr):ue 51 Expr.row bV ae es:=gt es (fun e _=>j7.1 e)
theorem wl (es:List Item):ue 61 Item.row ei ay es:=lP es (fun e _=>j7.2.1 e)
theorem ug (es:List Query):ue 52 Query.row d7 aG es:=kX es (fun e _=>j7.2.2.2.2 e)
theorem qY (es:List SortKey):ue 63 SortKey.row bR au es:=jt es (fun e _=>j7.2.2.2.1 e)
theorem rH (es:List Source):ue 62 Source.row cB ap es:=kj es (fun e _=>j7.2.2.1 e)
theorem Ec (kind:Int) (op:Int) (not:Bool) (val:Val) (qual:ByteArray) (name:ByteArray) (kids:List Expr) (sub:List Query) (q:Int) (h0:0≤q) (h1:q+(aq ae kids:Int)+(aq aG sub:Int)≤4611686018427387904):Cl Tryz.prog 18 [.ag (an (Expr.mk kind op not val qual name (d5 bV ae (q) kids) (d5 d7 aG (q+(aq ae kids:Int)) sub)).row),vi q] [] fun r _=>r=vi (q+(aq ae kids:Int)+(aq aG sub:Int)):=by
 simp only[Expr.row_mk,lc,Val.row,am]
 refine ab aa false Tryz.func18 rfl (by kernel_rfl) ?_
 simp only[Tryz.f18,tt,seval]
 refine cZ (hD kids (q) (by omega) (by omega)) (by decide) ?_ ?_<;>simp only[tt,seval,Expr.row_mk,lc,Val.row,am]
 have ng0:decide (q+(aq ae kids:Int)<0)=false:=decide_eq_false (by omega)
 have np0:(q+(aq ae kids:Int)<0)=False:=eq_false (by omega)
 try simp only[tt,seval,ng0,np0,Expr.row_mk,lc,Val.row,am]
 refine cZ (ug sub (q+(aq ae kids:Int)) (by omega) (by omega)) (by decide) ?_ ?_<;>simp only[tt,seval,Expr.row_mk,lc,Val.row,am]
 have ng1:decide (q+(aq ae kids:Int)+(aq aG sub:Int)<0)=false:=decide_eq_false (by omega)
 have np1:(q+(aq ae kids:Int)+(aq aG sub:Int)<0)=False:=eq_false (by omega)
 try simp only[tt,seval,ng1,np1,Expr.row_mk,lc,Val.row,am]
 exact⟨_,_,rfl,ac rfl⟩
theorem pu (distinct:Bool) (items:List Item) (from_:List Source) (where_:List Expr) (order:List SortKey) (limit:Int) (q:Int) (h0:0≤q) (h1:q+(aq ay items:Int)+(aq ap from_:Int)+(aq ae where_:Int)+(aq au order:Int)≤4611686018427387904):Cl Tryz.prog 23 [.ag (an (Query.mk distinct (d5 ei ay (q) items) (d5 cB ap (q+(aq ay items:Int)) from_) (d5 bV ae (q+(aq ay items:Int)+(aq ap from_:Int)) where_) (d5 bR au (q+(aq ay items:Int)+(aq ap from_:Int)+(aq ae where_:Int)) order) limit).row),vi q] [] fun r _=>r=vi (q+(aq ay items:Int)+(aq ap from_:Int)+(aq ae where_:Int)+(aq au order:Int)):=by
 simp only[lc,Query.row_mk,Val.row,am]
 refine ab aa false Tryz.func23 rfl (by kernel_rfl) ?_
 simp only[Tryz.f23,tt,seval]
 refine cZ (wl items (q) (by omega) (by omega)) (by decide) ?_ ?_<;>simp only[tt,seval,lc,Query.row_mk,Val.row,am]
 have ng0:decide (q+(aq ay items:Int)<0)=false:=decide_eq_false (by omega)
 have np0:(q+(aq ay items:Int)<0)=False:=eq_false (by omega)
 try simp only[tt,seval,ng0,np0,lc,Query.row_mk,Val.row,am]
 refine cZ (rH from_ (q+(aq ay items:Int)) (by omega) (by omega)) (by decide) ?_ ?_<;>simp only[tt,seval,lc,Query.row_mk,Val.row,am]
 have ng1:decide (q+(aq ay items:Int)+(aq ap from_:Int)<0)=false:=decide_eq_false (by omega)
 have np1:(q+(aq ay items:Int)+(aq ap from_:Int)<0)=False:=eq_false (by omega)
 try simp only[tt,seval,ng1,np1,lc,Query.row_mk,Val.row,am]
 refine cZ (hD where_ (q+(aq ay items:Int)+(aq ap from_:Int)) (by omega) (by omega)) (by decide) ?_ ?_<;>simp only[tt,seval,lc,Query.row_mk,Val.row,am]
 have ng2:decide (q+(aq ay items:Int)+(aq ap from_:Int)+(aq ae where_:Int)<0)=false:=decide_eq_false (by omega)
 have np2:(q+(aq ay items:Int)+(aq ap from_:Int)+(aq ae where_:Int)<0)=False:=eq_false (by omega)
 try simp only[tt,seval,ng2,np2,lc,Query.row_mk,Val.row,am]
 refine cZ (qY order (q+(aq ay items:Int)+(aq ap from_:Int)+(aq ae where_:Int)) (by omega) (by omega)) (by decide) ?_ ?_<;>simp only[tt,seval,lc,Query.row_mk,Val.row,am]
 have ng3:decide (q+(aq ay items:Int)+(aq ap from_:Int)+(aq ae where_:Int)+(aq au order:Int)<0)=false:=decide_eq_false (by omega)
 have np3:(q+(aq ay items:Int)+(aq ap from_:Int)+(aq ae where_:Int)+(aq au order:Int)<0)=False:=eq_false (by omega)
 try simp only[tt,seval,ng3,np3,lc,Query.row_mk,Val.row,am]
 exact⟨_,_,rfl,ac rfl⟩
end Go.Proofs.YteffjmaadkkmeaaGreatDoor
