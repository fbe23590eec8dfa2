/-
  Trees in order, second half.
  Conditions: none.
-/
import Derived.Test.YtoegnikpokgbfaaGreatDoorMIF1
set_option linter.unusedVariables false
set_option linter.unusedSimpArgs false
set_option linter.unusedSectionVars false
set_option linter.unnecessarySimpa false
set_option maxRecDepth 8000
namespace Go.Proofs.YtoegnikpokgbfaaGreatDoor
open Go Go.Dv
open Go.Vc (D cF cG cv aX)
theorem dj:ByteArray.empty=⟨#[]⟩:=rfl
theorem gt {α:Type} {g:α->Bool} {l:List α} {x:α} (h:x∈l) (hx:g x=false):l.all g=false:=by
 cases h':l.all g with
 |false=>rfl
 |true=>have:=List.all_eq_true.1 h' x h;rw[hx] at this;cases this
theorem km {α:Type} {g:α->Bool} {l:List α} (h:∀j (hj:j<l.length),g l[j]=true):l.all g=true:=List.all_eq_true.2 fun x hx=>by
 obtain⟨j,hj,rfl⟩:=List.mem_iff_getElem.1 hx
 exact h j hj
def ko:Expr->Bool | .mk kind op not val qual name kids sub=>dd kind op not val qual name kids.length sub.length
def lN:Item->Bool | .mk star qual e as_=>if star=true then (cE qual&&(decide (as_=⟨#[]⟩)&&ko e)) else (decide (qual=⟨#[]⟩)&&cE as_)
def lO (i:Nat):Source->Bool | .mk table as_ on=>bD table&&(cE as_&&(decide (on.length<=1)&&(decide (¬i=0)||decide (on.length=0))))
def AP (l:List Source):Bool:=(List.range l.length).all fun i=>match l[i]? with|some s=>lO i s|none=>true
def hdB:Query->Bool | .mk _ items from_ where_ order limit=>decide (1<=items.length/\items.length<=12)&&(decide (1<=from_.length/\from_.length<=3)&&(decide (where_.length<=1)&&(decide (order.length<=12)&&(decide (-1<=limit)&&(items.all lN&&AP from_)))))
theorem AQ {l:List Source} {i:Nat} (h:i<l.length) (hb:lO i l[i]=false):AP l=false:=by
 refine gt (x:=i) (List.mem_range.2 h) ?_
 rw[aC h];exact hb
theorem xA {l:List Source} (h:∀j (hj:j<l.length),lO j l[j]=true):AP l=true:=List.all_eq_true.2 fun j hj=>by
 have hj:=List.mem_range.1 hj
 rw[aC hj];exact h j hj
def j4 (g:Expr->Bool) (q:Query):Bool:=hdB q&&(exprsQ q).all g
def rc (g:Expr->Bool):Expr->Bool | .mk kind op not val qual name kids sub=>ax kind op not val qual name kids.length sub.length&&(kids.all g&&sub.all (j4 g))
noncomputable def fmE:Expr->Bool:=d7 rc
theorem AR (l:List Expr) (g:Expr->Bool) (h:∀x∈l,Cl Tryz.prog 200 [.ag (ar x.row)] [] fun r _=>r=vb (!g x)):Cl Tryz.prog 175 [.c (.sl l.length (l.flatMap Expr.row) none),.c (.fn 200 [] [])] [] fun r _=>∃n:Int,r=vi n/\decide (0<=n) = !(l.all g):=by
 refine am ah false Tryz.func175 rfl ac ?_
 simp only[Tryz.f175,tt,seval]
 refine fun _=>?_
 refine dLoop.intro (fun f L p=>∃i:Nat,f 8=vi i/\i<=l.length/\(∀j (hj:j<l.length),j<i->g l[j]=true)/\L=[]/\p=none) (fun f _ _=>(l.length-eO (f 8)).toNat) [] none ⟨aq _,av _,?_⟩ ?_
 ·simp only[tt,seval]
  exact⟨0,rfl,aa,fun j _ h=>absurd h (Nat.not_lt_zero _)⟩
 ·rintro g' L p ⟨i,hix,hi,hall,rfl,rfl⟩
  simp only[tt,seval] at hix
  simp only[tt,seval,hix,Int.ofNat_lt]
  refine ab (fun hlt=>?_) (fun hge=>?_)
  ·refine⟨aa,aa,_,aD aK (aC hlt),Expr.ne _ _,?_⟩
   simp only[seval,Expr.tk,aK]
   refine cZ (h l[i] (aH hlt)) ?_ ?_<;>simp only[tt,seval,hix]
   refine ab (fun hb=>?_) (fun hb=>?_)
   ·have hb:g l[i]=false:=by simpa only[Bool.not_eq_true'] using hb
    refine⟨vi i,[],⟨i,rfl,?_⟩,ao rfl⟩
    rw[aF aa,gt (aH hlt) hb];rfl
   ·have hb:g l[i]=true:=by simpa only[Bool.not_eq_false'] using hb
    try rw[dW i aa]
    exact⟨_,none,aq _,av _,⟨i+1,rfl,aa,fun j hj hji=>by
     by_cases e:j=i
     ·subst e;exact hb
     ·exact hall j hj aa,rfl,rfl⟩,aE⟩
  ·refine⟨vi (-1),[],⟨-1,rfl,?_⟩,ao rfl⟩
   rw[km fun j hj=>hall j hj aa];rfl
theorem ug (l:List Expr) (g:Expr->Bool) (h:∀x∈l,Cl Tryz.prog 200 [.ag (ar x.row)] [] fun r _=>r=vb (!g x)):Cl Tryz.prog 117 [.c (.sl l.length (l.flatMap Expr.row) none),.c (.fn 200 [] [])] [] fun r _=>r=vb (!(l.all g)):=by
 refine am ah false Tryz.func117 rfl ac ?_
 simp only[Tryz.f117,tt,seval]
 refine cy (AR l g h) ?_ ?_ ?_
 ·decide
 ·simp only[tt,seval]
 rintro r ⟨n,rfl,hn⟩
 simp only[tt,seval]
 exact⟨_,_,aY hn,ao rfl⟩
theorem AU (l:List Query) (g:Query->Bool) (h:∀x∈l,Cl Tryz.prog 139 [.ag (ar x.row)] [] fun r _=>r=vb (!g x)):Cl Tryz.prog 201 [.c (.sl l.length (l.flatMap Query.row) none),.c (.fn 139 [] [])] [] fun r _=>∃n:Int,r=vi n/\decide (0<=n) = !(l.all g):=by
 refine am ah false Tryz.func201 rfl ac ?_
 simp only[Tryz.f201,tt,seval]
 refine fun _=>?_
 refine dLoop.intro (fun f L p=>∃i:Nat,f 8=vi i/\i<=l.length/\(∀j (hj:j<l.length),j<i->g l[j]=true)/\L=[]/\p=none) (fun f _ _=>(l.length-eO (f 8)).toNat) [] none ⟨aq _,av _,?_⟩ ?_
 ·simp only[tt,seval]
  exact⟨0,rfl,aa,fun j _ h=>absurd h (Nat.not_lt_zero _)⟩
 ·rintro g' L p ⟨i,hix,hi,hall,rfl,rfl⟩
  simp only[tt,seval] at hix
  simp only[tt,seval,hix,Int.ofNat_lt]
  refine ab (fun hlt=>?_) (fun hge=>?_)
  ·refine⟨aa,aa,_,aD Query.row_len (aC hlt),Query.ne _ _,?_⟩
   simp only[seval,Query.tk,Query.row_len]
   refine cZ (h l[i] (aH hlt)) ?_ ?_<;>simp only[tt,seval,hix]
   refine ab (fun hb=>?_) (fun hb=>?_)
   ·have hb:g l[i]=false:=by simpa only[Bool.not_eq_true'] using hb
    refine⟨vi i,[],⟨i,rfl,?_⟩,ao rfl⟩
    rw[aF aa,gt (aH hlt) hb];rfl
   ·have hb:g l[i]=true:=by simpa only[Bool.not_eq_false'] using hb
    try rw[dW i aa]
    exact⟨_,none,aq _,av _,⟨i+1,rfl,aa,fun j hj hji=>by
     by_cases e:j=i
     ·subst e;exact hb
     ·exact hall j hj aa,rfl,rfl⟩,aE⟩
  ·refine⟨vi (-1),[],⟨-1,rfl,?_⟩,ao rfl⟩
   rw[km fun j hj=>hall j hj aa];rfl
theorem uh (l:List Query) (g:Query->Bool) (h:∀x∈l,Cl Tryz.prog 139 [.ag (ar x.row)] [] fun r _=>r=vb (!g x)):Cl Tryz.prog 138 [.c (.sl l.length (l.flatMap Query.row) none),.c (.fn 139 [] [])] [] fun r _=>r=vb (!(l.all g)):=by
 refine am ah false Tryz.func138 rfl ac ?_
 simp only[Tryz.f138,tt,seval]
 refine cy (AU l g h) ?_ ?_ ?_
 ·decide
 ·simp only[tt,seval]
 rintro r ⟨n,rfl,hn⟩
 simp only[tt,seval]
 exact⟨_,_,aY hn,ao rfl⟩
theorem GK (e:Expr) (b:Bool) (h:Cl Tryz.prog 77 [.ag (ar e.row)] [] fun r _=>r=vb b):Cl Tryz.prog 200 [.ag (ar e.row)] [] fun r _=>r=vb (!b):=by
 obtain⟨kind,op,not,val,qual,name,kids,sub⟩:=e
 rw[ai] at h ⊢
 refine am ah false Tryz.func200 rfl ac ?_
 simp only[Tryz.f200,tt,seval]
 refine cZ (h) ?_ ?_<;>simp only[tt,seval]
 exact⟨_,_,rfl,ao rfl⟩
theorem GL (e:Query) (b:Bool) (h:Cl Tryz.prog 140 [.ag (ar e.row)] [] fun r _=>r=vb b):Cl Tryz.prog 139 [.ag (ar e.row)] [] fun r _=>r=vb (!b):=by
 obtain⟨distinct,items,from_,where_,order,limit⟩:=e
 rw[bj] at h ⊢
 refine am ah false Tryz.func139 rfl ac ?_
 simp only[Tryz.f139,tt,seval]
 refine cZ (h) ?_ ?_<;>simp only[tt,seval]
 exact⟨_,_,rfl,ao rfl⟩
theorem nL (l:List Expr) (g:Expr->Bool) (h:∀x∈l,Cl Tryz.prog 77 [.ag (ar x.row)] [] fun r _=>r=vb (g x)):Cl Tryz.prog 137 [.c (.sl l.length (l.flatMap Expr.row) none)] [] fun r _=>r=vb (l.all g):=by
 refine am ah false Tryz.func137 rfl ac ?_
 simp only[Tryz.f137,tt,seval]
 refine cZ (ug l g (fun x hx=>GK x (g x) (h x hx))) ?_ ?_<;>simp only[tt,seval]
 exact⟨_,_,aY (Bool.not_not _),ao rfl⟩
theorem CG (e:Expr):Cl Tryz.prog 203 [.ag (ar e.row)] [] fun r _=>r=vb (ko e):=by
 obtain⟨kind,op,not,val,qual,name,kids,sub⟩:=e
 rw[ai]
 refine am ah false Tryz.func203 rfl ac ?_
 simp only[Tryz.f203,tt,seval]
 refine cZ (AO kind op not val qual name kids sub) ?_ ?_<;>simp only[tt,seval,ai,dj]
 exact⟨_,_,rfl,ao rfl⟩
set_option maxHeartbeats 4000000 in
theorem qz (kind op:Int) (not:Bool) (val:Val) (qual name:ByteArray) (kids:List Expr) (sub:List Query) (g:Expr->Bool) (hkids:∀x∈kids,Cl Tryz.prog 77 [.ag (ar x.row)] [] fun r _=>r=vb (g x)) (hsub:∀q∈sub,Cl Tryz.prog 140 [.ag (ar q.row)] [] fun r _=>r=vb (j4 g q)) (hkl:kids.length<=1048576) (hsl:sub.length<=1048576):Cl Tryz.prog 77 [.ag (ar (Expr.mk kind op not val qual name kids sub).row)] [] fun r _=>r=vb (rc g (Expr.mk kind op not val qual name kids sub)):=by
 obtain⟨zb,hzb⟩:∃zb,zb=rc g (Expr.mk kind op not val qual name kids sub):=⟨_,rfl⟩
 rw[<-hzb,ai]
 refine am ah false Tryz.func77 rfl ac ?_
 simp only[Tryz.f77,tt,seval]
 obtain⟨nk,hnk⟩:∃nk:Int,nk=kids.length:=⟨_,rfl⟩
 obtain⟨ns,hns⟩:∃ns:Int,ns=sub.length:=⟨_,rfl⟩
 rw[rc,ax,<-hnk,<-hns] at hzb
 by_cases hk:1<=kind/\kind<=9
 case neg=>
  have hokf:cA kind op val qual name=false:=by simp only[cA];(repeat' split)<;>first|omega|(exact aG aa)
  refine cZ (uf kind op not val qual name kids sub) ?_ ?_<;>simp only[tt,seval,ai,eP,hokf]
  exact⟨_,_,aY (by rw[hzb,hokf];rfl),ao rfl⟩
 have fo:=uf kind op not val qual name kids sub
 unfold eP at fo
 generalize cA kind op val qual name=okv at fo hzb
 rcases (show kind=1∨kind=2∨kind=3∨kind=4∨kind=5∨kind=6∨kind=7∨kind=8∨kind=9 by omega) with rfl|rfl|rfl|rfl|rfl|rfl|rfl|rfl|rfl
 all_goals
  refine cZ (fo) ?_ ?_<;>simp only[tt,seval,ai,bJ]
  cases hok:okv
  case false=>(try simp only[tt,seval]);exact⟨_,_,aY (by clear hnk hns;rw[hzb];simp [bJ, *];try omega),ao rfl⟩
  simp only[tt,seval]
  first
   |((by_cases ho:op=0;case neg=>(try simp only[tt,seval,ho]);exact⟨_,_,aY (by clear hnk hns;rw[hzb];simp [bJ, *];try omega),ao rfl⟩);try simp only[tt,seval,ho])
   |skip
  first
   |(cases hno:not;case true=>(try simp only[tt,seval]);exact⟨_,_,aY (by clear hnk hns;rw[hzb];simp [bJ, *];try omega),ao rfl⟩);(try simp only[tt,seval])
   |skip
  first
   |(rw[dc ac (iu val)];(try simp only[tt,seval]);cases hv:zV val;case false=>(try simp only[tt,seval]);exact⟨_,_,aY (by clear hnk hns;rw[hzb];simp [bJ, *];try omega),ao rfl⟩);(try simp only[tt,seval])
   |skip
  first
   |((by_cases hq:qual=⟨#[]⟩;case neg=>(try simp only[tt,seval,hq]);exact⟨_,_,aY (by clear hnk hns;rw[hzb];simp [bJ, *];try omega),ao rfl⟩);try simp only[tt,seval,hq];(by_cases hn:name=⟨#[]⟩;case neg=>(try simp only[tt,seval,hn]);exact⟨_,_,aY (by clear hnk hns;rw[hzb];simp [bJ, *];try omega),ao rfl⟩);try simp only[tt,seval,hn])
   |skip
  refine fun _=>?_
  rw[<-hnk]
  first
   |((by_cases hlo:nk<0;case pos=>(try simp only[tt,seval,hlo]);exact⟨_,_,aY (by clear hnk hns;rw[hzb];simp [bJ, *];try omega),ao rfl⟩);try simp only[tt,seval,hlo])
   |((by_cases hlo:nk<1;case pos=>(try simp only[tt,seval,hlo]);exact⟨_,_,aY (by clear hnk hns;rw[hzb];simp [bJ, *];try omega),ao rfl⟩);try simp only[tt,seval,hlo])
   |((by_cases hlo:nk<2;case pos=>(try simp only[tt,seval,hlo]);exact⟨_,_,aY (by clear hnk hns;rw[hzb];simp [bJ, *];try omega),ao rfl⟩);try simp only[tt,seval,hlo])
   |((by_cases hlo:nk<3;case pos=>(try simp only[tt,seval,hlo]);exact⟨_,_,aY (by clear hnk hns;rw[hzb];simp [bJ, *];try omega),ao rfl⟩);try simp only[tt,seval,hlo])
  refine fun _=>?_
  try rw[<-hnk]
  first
   |((by_cases hhi:0<nk;case pos=>(try simp only[tt,seval,hhi]);exact⟨_,_,aY (by clear hnk hns;rw[hzb];simp [bJ, *];try omega),ao rfl⟩);try simp only[tt,seval,hhi])
   |((by_cases hhi:1<nk;case pos=>(try simp only[tt,seval,hhi]);exact⟨_,_,aY (by clear hnk hns;rw[hzb];simp [bJ, *];try omega),ao rfl⟩);try simp only[tt,seval,hhi])
   |((by_cases hhi:2<nk;case pos=>(try simp only[tt,seval,hhi]);exact⟨_,_,aY (by clear hnk hns;rw[hzb];simp [bJ, *];try omega),ao rfl⟩);try simp only[tt,seval,hhi])
   |((by_cases hhi:3<nk;case pos=>(try simp only[tt,seval,hhi]);exact⟨_,_,aY (by clear hnk hns;rw[hzb];simp [bJ, *];try omega),ao rfl⟩);try simp only[tt,seval,hhi])
   |((by_cases hhi:9<nk;case pos=>(try simp only[tt,seval,hhi]);exact⟨_,_,aY (by clear hnk hns;rw[hzb];simp [bJ, *];try omega),ao rfl⟩);try simp only[tt,seval,hhi])
  refine fun _=>?_
  try rw[<-hns]
  first
   |((by_cases hns0:ns=0;case neg=>(try simp only[tt,seval,hns0]);exact⟨_,_,aY (by clear hnk hns;rw[hzb];simp [bJ, *];try omega),ao rfl⟩);try simp only[tt,seval,hns0])
   |((by_cases hns0:ns=1;case neg=>(try simp only[tt,seval,hns0]);exact⟨_,_,aY (by clear hnk hns;rw[hzb];simp [bJ, *];try omega),ao rfl⟩);try simp only[tt,seval,hns0])
  refine cZ (nL kids g hkids) ?_ ?_<;>simp only[tt,seval]
  cases hka:kids.all g
  case false=>(try simp only[tt,seval]);exact⟨_,_,aY (by clear hnk hns;rw[hzb];simp [bJ, *];try omega),ao rfl⟩
  simp only[tt,seval]
  refine cZ (uh sub (j4 g) (fun q hq=>GL q (j4 g q) (hsub q hq))) ?_ ?_<;>simp only[tt,seval]
  cases hsa:sub.all (j4 g)
  case false=>(try simp only[tt,seval]);exact⟨_,_,aY (by clear hnk hns;rw[hzb];simp [bJ, *];try omega),ao rfl⟩
  simp only[tt,seval]
  exact⟨_,_,aY (by clear hnk hns;rw[hzb];simp [bJ, *];try omega),ao rfl⟩
theorem rZ (distinct:Bool) (items:List Item) (from_:List Source) (where_:List Expr) (order:List SortKey) (limit:Int) (g:Expr->Bool) (h:¬(1<=items.length/\items.length<=12)):j4 g (Query.mk distinct items from_ where_ order limit)=false:=by simp only[j4,hdB,aG h,Bool.false_and]
theorem vU (distinct:Bool) (items:List Item) (from_:List Source) (where_:List Expr) (order:List SortKey) (limit:Int) (g:Expr->Bool) (h:¬(1<=from_.length/\from_.length<=3)):j4 g (Query.mk distinct items from_ where_ order limit)=false:=by simp only[j4,hdB,aG h,Bool.false_and,Bool.and_false]
theorem xB (distinct:Bool) (items:List Item) (from_:List Source) (where_:List Expr) (order:List SortKey) (limit:Int) (g:Expr->Bool) (h:¬where_.length<=1):j4 g (Query.mk distinct items from_ where_ order limit)=false:=by simp only[j4,hdB,aG h,Bool.false_and,Bool.and_false]
theorem xC (distinct:Bool) (items:List Item) (from_:List Source) (where_:List Expr) (order:List SortKey) (limit:Int) (g:Expr->Bool) (h:¬order.length<=12):j4 g (Query.mk distinct items from_ where_ order limit)=false:=by simp only[j4,hdB,aG h,Bool.false_and,Bool.and_false]
theorem xD (distinct:Bool) (items:List Item) (from_:List Source) (where_:List Expr) (order:List SortKey) (limit:Int) (g:Expr->Bool) (h:¬ -1<=limit):j4 g (Query.mk distinct items from_ where_ order limit)=false:=by simp only[j4,hdB,aG h,Bool.false_and,Bool.and_false]
theorem qA (distinct:Bool) (items:List Item) (from_:List Source) (where_:List Expr) (order:List SortKey) (limit:Int) (g:Expr->Bool) {x:Item} (hm:x∈items) (h:lN x=false):j4 g (Query.mk distinct items from_ where_ order limit)=false:=by simp only[j4,hdB,gt hm h,Bool.false_and,Bool.and_false]
theorem ui (distinct:Bool) (items:List Item) (from_:List Source) (where_:List Expr) (order:List SortKey) (limit:Int) (g:Expr->Bool) {i:Nat} (hm:i<from_.length) (h:lO i from_[i]=false):j4 g (Query.mk distinct items from_ where_ order limit)=false:=by simp only[j4,hdB,AQ hm h,Bool.false_and,Bool.and_false]
theorem GM (distinct:Bool) (items:List Item) (from_:List Source) (where_:List Expr) (order:List SortKey) (limit:Int) (g:Expr->Bool) (h1:1<=items.length/\items.length<=12) (h2:1<=from_.length/\from_.length<=3) (h3:where_.length<=1) (h4:order.length<=12) (h5 : -1<=limit) (h6:∀j (hj:j<items.length),lN items[j]=true) (h7:∀j (hj:j<from_.length),lO j from_[j]=true) :
 j4 g (Query.mk distinct items from_ where_ order limit)=(exprsQ (Query.mk distinct items from_ where_ order limit)).all g:=by simp only[j4,hdB,aF h1,aF h2,aF h3,aF h4,aF h5,km h6,xA h7,Bool.true_and]
set_option maxHeartbeats 1000000 in
theorem nW (q:Query) (g:Expr->Bool) (h:∀x∈exprsQ q,Cl Tryz.prog 77 [.ag (ar x.row)] [] fun r _=>r=vb (g x)) (hsz:szQuery q<=1048576):Cl Tryz.prog 140 [.ag (ar q.row)] [] fun r _=>r=vb (j4 g q):=by
 obtain⟨distinct,items,from_,where_,order,limit⟩:=q
 obtain⟨zb,hzb⟩:∃zb,zb=j4 g (Query.mk distinct items from_ where_ order limit):=⟨_,rfl⟩
 rw[<-hzb,bj]
 refine am ah false Tryz.func140 rfl ac ?_
 simp only[Tryz.f140,tt,seval]
 refine fun _=>?_
 by_cases c1:(items.length:Int)<1
 case pos=>
  simp only[tt,seval,aF c1]
  exact⟨_,_,aY (by rw[hzb];exact (rZ distinct items from_ where_ order limit g aa).symm),ao rfl⟩
 simp only[tt,seval,aG c1]
 refine fun _=>?_
 by_cases c2:(12:Int)<items.length
 case pos=>
  simp only[tt,seval,aF c2]
  exact⟨_,_,aY (by rw[hzb];exact (rZ distinct items from_ where_ order limit g aa).symm),ao rfl⟩
 simp only[tt,seval,aG c2]
 refine fun _=>?_
 by_cases c3:(from_.length:Int)<1
 case pos=>
  simp only[tt,seval,aF c3]
  exact⟨_,_,aY (by rw[hzb];exact (vU distinct items from_ where_ order limit g aa).symm),ao rfl⟩
 simp only[tt,seval,aG c3]
 refine fun _=>?_
 by_cases c4:(3:Int)<from_.length
 case pos=>
  simp only[tt,seval,aF c4]
  exact⟨_,_,aY (by rw[hzb];exact (vU distinct items from_ where_ order limit g aa).symm),ao rfl⟩
 simp only[tt,seval,aG c4]
 refine fun _=>?_
 by_cases c5:(1:Int)<where_.length
 case pos=>
  simp only[tt,seval,aF c5]
  exact⟨_,_,aY (by rw[hzb];exact (xB distinct items from_ where_ order limit g aa).symm),ao rfl⟩
 simp only[tt,seval,aG c5]
 refine fun _=>?_
 by_cases c6:(12:Int)<order.length
 case pos=>
  simp only[tt,seval,aF c6]
  exact⟨_,_,aY (by rw[hzb];exact (xC distinct items from_ where_ order limit g aa).symm),ao rfl⟩
 simp only[tt,seval,aG c6]
 refine ab (fun c7=>?_) (fun c7=>?_)
 ·exact⟨_,_,aY (by rw[hzb];exact (xD distinct items from_ where_ order limit g aa).symm),ao rfl⟩
 ·try simp only[tt,seval]
  refine fun _=>?_
  refine dLoop.intro (fun f L p=>∃i:Nat,f 49=vi i/\i<=items.length/\(∀j (hj:j<items.length),j<i->lN items[j]=true)/\L=[(1,.str [.v (.bool distinct),.sl items.length (items.flatMap Item.row) none,.sl from_.length (from_.flatMap Source.row) none,.sl where_.length (where_.flatMap Expr.row) none,.sl order.length (order.flatMap SortKey.row) none,.v (.int .i64 limit)])]/\p=none) (fun f _ _=>(items.length-eO (f 49)).toNat) [(1,.str [.v (.bool distinct),.sl items.length (items.flatMap Item.row) none,.sl from_.length (from_.flatMap Source.row) none,.sl where_.length (where_.flatMap Expr.row) none,.sl order.length (order.flatMap SortKey.row) none,.v (.int .i64 limit)])] none ⟨ak rfl (aq _),av _,?_⟩ ?_
  ·simp only[tt,seval]
   exact⟨0,rfl,aa,fun j _ h=>absurd h (Nat.not_lt_zero _)⟩
  ·rintro g' L p ⟨i,ix,hi,hall,rfl,rfl⟩
   simp only[tt,seval] at ix
   simp only[tt,seval,ix,Int.ofNat_lt]
   refine ab (fun hlt=>?_) (fun hge=>?_)
   ·have hlt:i<items.length:=by omega
    obtain⟨it,bH⟩:∃it,it=items[i]:=⟨_,rfl⟩
    refine⟨aa,aa,_,aD Item.row_len (aC hlt),Item.ne _ _,?_⟩
    obtain⟨star,qual,⟨k,o,n,v,q,m,ks,ss⟩,as_⟩:=it
    rw[<-bH,Item.row_mk,ai]
    simp only[tt,seval]
    cases star
    case true=>
     simp only[tt,seval]
     refine cZ (vT qual) ?_ ?_<;>simp only[tt,seval]
     cases hm:cE qual
     case false=>
      simp only[tt,seval]
      exact⟨_,_,aY (by rw[hzb];exact (qA distinct items from_ where_ order limit g (bH▸aH hlt) (by simp [lN,hm])).symm),ao rfl⟩
     simp only[tt,seval]
     by_cases ha:as_=⟨#[]⟩
     case neg=>
      simp only[tt,seval,aG ha]
      exact⟨_,_,aY (by rw[hzb];exact (qA distinct items from_ where_ order limit g (bH▸aH hlt) (by simp [lN,hm,ha])).symm),ao rfl⟩
     simp only[tt,seval,aF ha]
     refine cZ (CG (Expr.mk k o n v q m ks ss)) ?_ ?_<;>simp only[tt,seval,ai]
     cases hz:dd k o n v q m ks.length ss.length
     case false=>
      simp only[tt,seval,ko,hz]
      exact⟨_,_,aY (by rw[hzb];exact (qA distinct items from_ where_ order limit g (bH▸aH hlt) (by simp [lN,hm,ha,ko,hz])).symm),ao rfl⟩
     simp only[tt,seval,ko,hz,ix]
     try rw[dW i aa]
     exact⟨_,none,ak rfl (aq _),av _,⟨i+1,rfl,aa,fun j hj hji=>by
      by_cases e:j=i
      ·subst e;rw[<-bH];simp [lN,hm,ha,ko,hz]
      ·exact hall j hj aa,rfl,rfl⟩,aE⟩
    case false=>
     simp only[tt,seval]
     by_cases hq:qual=⟨#[]⟩
     case neg=>
      simp only[tt,seval,aG hq]
      exact⟨_,_,aY (by rw[hzb];exact (qA distinct items from_ where_ order limit g (bH▸aH hlt) (by simp [lN,hq])).symm),ao rfl⟩
     simp only[tt,seval,aF hq]
     refine cZ (vT as_) ?_ ?_<;>simp only[tt,seval,ix]
     cases hm:cE as_
     case false=>
      simp only[tt,seval]
      exact⟨_,_,aY (by rw[hzb];exact (qA distinct items from_ where_ order limit g (bH▸aH hlt) (by simp [lN,hm])).symm),ao rfl⟩
     simp only[tt,seval]
     try rw[dW i aa]
     exact⟨_,none,ak rfl (aq _),av _,⟨i+1,rfl,aa,fun j hj hji=>by
      by_cases e:j=i
      ·subst e;rw[<-bH];simp [lN,hm,hq]
      ·exact hall j hj aa,rfl,rfl⟩,aE⟩
   ·have hall:=fun j hj=>hall j hj aa
    have hall1:=hall
    clear hall
    refine fun _=>?_
    refine dLoop.intro (fun f L p=>∃i:Nat,f 92=vi i/\i<=from_.length/\(∀j (hj:j<from_.length),j<i->lO j from_[j]=true)/\L=[(1,.str [.v (.bool distinct),.sl items.length (items.flatMap Item.row) none,.sl from_.length (from_.flatMap Source.row) none,.sl where_.length (where_.flatMap Expr.row) none,.sl order.length (order.flatMap SortKey.row) none,.v (.int .i64 limit)])]/\p=none) (fun f _ _=>(from_.length-eO (f 92)).toNat) [(1,.str [.v (.bool distinct),.sl items.length (items.flatMap Item.row) none,.sl from_.length (from_.flatMap Source.row) none,.sl where_.length (where_.flatMap Expr.row) none,.sl order.length (order.flatMap SortKey.row) none,.v (.int .i64 limit)])] none ⟨ak rfl (aq _),av _,?_⟩ ?_
    ·simp only[tt,seval]
     exact⟨0,rfl,aa,fun j _ h=>absurd h (Nat.not_lt_zero _)⟩
    ·rintro g' L p ⟨i,ix,hi,hall,rfl,rfl⟩
     simp only[tt,seval] at ix
     simp only[tt,seval,ix,Int.ofNat_lt]
     refine ab (fun hlt=>?_) (fun hge=>?_)
     ·have hlt:i<from_.length:=by omega
      obtain⟨it,bH⟩:∃it,it=from_[i]:=⟨_,rfl⟩
      refine⟨aa,aa,_,aD Source.row_len (aC hlt),Source.ne _ _,?_⟩
      obtain⟨table,as_,on⟩:=it
      rw[<-bH,Source.row_mk]
      simp only[tt,seval]
      refine cZ (iD table) ?_ ?_<;>simp only[tt,seval]
      cases hnb:decide (1<=table.size/\table.size<=20)
      case false=>
       simp only[tt,seval]
       exact⟨_,_,aY (by rw[hzb];exact (ui distinct items from_ where_ order limit g hlt (by rw[<-bH];simp [lO,bD,hnb])).symm),ao rfl⟩
      simp only[tt,seval]
      refine cZ (vT as_) ?_ ?_<;>simp only[tt,seval]
      cases hm:cE as_
      case false=>
       simp only[tt,seval]
       exact⟨_,_,aY (by rw[hzb];exact (ui distinct items from_ where_ order limit g hlt (by rw[<-bH];simp [lO,bD,hnb,hm])).symm),ao rfl⟩
      simp only[tt,seval]
      refine fun _=>?_
      by_cases c8:(1:Int)<on.length
      case pos=>
       simp only[tt,seval,aF c8]
       exact⟨_,_,aY (by rw[hzb];exact (ui distinct items from_ where_ order limit g hlt (by rw[<-bH];simp only[lO,aG (show ¬on.length<=1 by omega),Bool.false_and,Bool.and_false])).symm),ao rfl⟩
      simp only[tt,seval,aG c8]
      by_cases c9:(i:Int)=0
      case neg=>
       simp only[tt,seval,c9,ix]
       try rw[dW i aa]
       exact⟨_,none,ak rfl (aq _),av _,⟨i+1,rfl,aa,fun j hj hji=>by
        by_cases e:j=i
        ·subst e;rw[<-bH];simp only[lO,bD,hnb,hm,aF (show on.length<=1 by omega),aF (show ¬j=0 by omega),Bool.true_and,Bool.true_or]
        ·exact hall j hj aa,rfl,rfl⟩,aE⟩
      simp only[tt,seval,aF c9,ix]
      refine fun _=>?_
      refine ab (fun G5=>?_) (fun G5=>?_)
      ·exact⟨_,_,aY (by rw[hzb];exact (ui distinct items from_ where_ order limit g hlt (by rw[<-bH];simp only[lO,aG (show ¬ ¬i=0 by omega),aG (show ¬on.length=0 by omega),Bool.or_false,Bool.and_false])).symm),ao rfl⟩
      ·have hi0:i=0:=by omega
       try rw[dW i aa]
       exact⟨_,none,ak rfl (aq _),av _,⟨i+1,rfl,aa,fun j hj hji=>by
        by_cases e:j=i
        ·subst e;rw[<-bH];simp only[lO,bD,hnb,hm,aF (show on.length<=1 by omega),aF (show on.length=0 by omega),Bool.true_and,Bool.or_true]
        ·exact hall j hj aa,rfl,rfl⟩,aE⟩
     ·have hall:=fun j hj=>hall j hj aa
      refine cZ (pM distinct items from_ where_ order limit hsz) ?_ ?_<;>simp only[tt,seval,bj]
      refine cZ (nL (exprsQ (Query.mk distinct items from_ where_ order limit)) g h) ?_ ?_<;>simp only[tt,seval]
      exact⟨_,_,aY (by rw[hzb,GM distinct items from_ where_ order limit g ⟨aa,aa⟩ ⟨aa,aa⟩ aa aa aa hall1 hall]),ao rfl⟩
set_option maxHeartbeats 1000000 in
theorem pO (q:Query) (g:Expr->Bool) (h:∀x∈exprsQ q,Cl Tryz.prog 45 [.ag (ar x.row)] [] fun r _=>r=vb (g x)) (hsz:szQuery q<=1048576):Cl Tryz.prog 104 [.ag (ar q.row)] [] fun r _=>r=vb (j4 g q):=by
 obtain⟨distinct,items,from_,where_,order,limit⟩:=q
 obtain⟨zb,hzb⟩:∃zb,zb=j4 g (Query.mk distinct items from_ where_ order limit):=⟨_,rfl⟩
 rw[<-hzb,bj]
 refine am ah false Tryz.func104 rfl ac ?_
 simp only[Tryz.f104,tt,seval]
 refine fun _=>?_
 refine cZ (dS items.length 1 12) ?_ ?_<;>simp only[tt,seval]
 by_cases c1:(1:Int)<=items.length/\(items.length:Int)<=12
 case neg=>
  simp only[tt,seval,aG c1]
  exact⟨_,_,aY (by rw[hzb];exact (rZ distinct items from_ where_ order limit g aa).symm),ao rfl⟩
 simp only[tt,seval,aF c1]
 refine fun _=>?_
 refine cZ (dS from_.length 1 3) ?_ ?_<;>simp only[tt,seval]
 by_cases c2:(1:Int)<=from_.length/\(from_.length:Int)<=3
 case neg=>
  simp only[tt,seval,aG c2]
  exact⟨_,_,aY (by rw[hzb];exact (vU distinct items from_ where_ order limit g aa).symm),ao rfl⟩
 simp only[tt,seval,aF c2]
 refine fun _=>?_
 by_cases c5:(1:Int)<where_.length
 case pos=>
  simp only[tt,seval,aF c5]
  exact⟨_,_,aY (by rw[hzb];exact (xB distinct items from_ where_ order limit g aa).symm),ao rfl⟩
 simp only[tt,seval,aG c5]
 refine fun _=>?_
 by_cases c6:(12:Int)<order.length
 case pos=>
  simp only[tt,seval,aF c6]
  exact⟨_,_,aY (by rw[hzb];exact (xC distinct items from_ where_ order limit g aa).symm),ao rfl⟩
 simp only[tt,seval,aG c6]
 refine ab (fun c7=>?_) (fun c7=>?_)
 ·exact⟨_,_,aY (by rw[hzb];exact (xD distinct items from_ where_ order limit g aa).symm),ao rfl⟩
 ·try simp only[tt,seval]
  refine dLoop.intro (fun f L p=>∃i:Nat,f 3=vi i/\i<=items.length/\(∀j (hj:j<items.length),j<i->lN items[j]=true)/\L=[(1,.str [.v (.bool distinct),.sl items.length (items.flatMap Item.row) none,.sl from_.length (from_.flatMap Source.row) none,.sl where_.length (where_.flatMap Expr.row) none,.sl order.length (order.flatMap SortKey.row) none,.v (.int .i64 limit)])]/\p=none) (fun f _ _=>(items.length-eO (f 3)).toNat) [(1,.str [.v (.bool distinct),.sl items.length (items.flatMap Item.row) none,.sl from_.length (from_.flatMap Source.row) none,.sl where_.length (where_.flatMap Expr.row) none,.sl order.length (order.flatMap SortKey.row) none,.v (.int .i64 limit)])] none ⟨ak rfl (aq _),av _,?_⟩ ?_
  ·simp only[tt,seval]
   exact⟨0,rfl,aa,fun j _ h=>absurd h (Nat.not_lt_zero _)⟩
  ·rintro g' L p ⟨i,ix,hi,hall,rfl,rfl⟩
   simp only[tt,seval] at ix
   simp only[tt,seval,ix,Int.ofNat_lt]
   refine fun _=>?_
   refine ab (fun hlt=>?_) (fun hge=>?_)
   ·have hlt:i<items.length:=by omega
    obtain⟨it,bH⟩:∃it,it=items[i]:=⟨_,rfl⟩
    refine⟨aa,aa,_,aD Item.row_len (aC hlt),Item.ne _ _,?_⟩
    obtain⟨star,qual,⟨k,o,n,v,q,m,ks,ss⟩,as_⟩:=it
    rw[<-bH,Item.row_mk,ai]
    simp only[tt,seval]
    cases star
    case true=>
     simp only[tt,seval]
     refine cZ (kW qual) ?_ ?_<;>simp only[tt,seval]
     cases hm:cE qual
     case false=>
      simp only[tt,seval]
      exact⟨_,_,aY (by rw[hzb];exact (qA distinct items from_ where_ order limit g (bH▸aH hlt) (by simp [lN,hm])).symm),ao rfl⟩
     simp only[tt,seval]
     by_cases ha:as_=⟨#[]⟩
     case neg=>
      simp only[tt,seval,aG ha]
      exact⟨_,_,aY (by rw[hzb];exact (qA distinct items from_ where_ order limit g (bH▸aH hlt) (by simp [lN,hm,ha])).symm),ao rfl⟩
     simp only[tt,seval,aF ha]
     refine cZ (CF k o n v q m ks ss) ?_ ?_<;>simp only[tt,seval,ai,dj]
     cases hz:dd k o n v q m ks.length ss.length
     case false=>
      simp only[tt,seval]
      exact⟨_,_,aY (by rw[hzb];exact (qA distinct items from_ where_ order limit g (bH▸aH hlt) (by simp [lN,hm,ha,ko,hz])).symm),ao rfl⟩
     simp only[tt,seval,ix]
     try rw[dW i aa]
     exact⟨_,none,ak rfl (aq _),av _,⟨i+1,rfl,aa,fun j hj hji=>by
      by_cases e:j=i
      ·subst e;rw[<-bH];simp [lN,hm,ha,ko,hz]
      ·exact hall j hj aa,rfl,rfl⟩,aE⟩
    case false=>
     simp only[tt,seval]
     by_cases hq:qual=⟨#[]⟩
     case neg=>
      simp only[tt,seval,aG hq]
      exact⟨_,_,aY (by rw[hzb];exact (qA distinct items from_ where_ order limit g (bH▸aH hlt) (by simp [lN,hq])).symm),ao rfl⟩
     simp only[tt,seval,aF hq]
     refine cZ (kW as_) ?_ ?_<;>simp only[tt,seval,ix]
     cases hm:cE as_
     case false=>
      simp only[tt,seval]
      exact⟨_,_,aY (by rw[hzb];exact (qA distinct items from_ where_ order limit g (bH▸aH hlt) (by simp [lN,hm])).symm),ao rfl⟩
     simp only[tt,seval]
     try rw[dW i aa]
     exact⟨_,none,ak rfl (aq _),av _,⟨i+1,rfl,aa,fun j hj hji=>by
      by_cases e:j=i
      ·subst e;rw[<-bH];simp [lN,hm,hq]
      ·exact hall j hj aa,rfl,rfl⟩,aE⟩
   ·have hall:=fun j hj=>hall j hj aa
    have hall1:=hall
    clear hall
    refine dLoop.intro (fun f L p=>∃i:Nat,f 5=vi i/\i<=from_.length/\(∀j (hj:j<from_.length),j<i->lO j from_[j]=true)/\L=[(1,.str [.v (.bool distinct),.sl items.length (items.flatMap Item.row) none,.sl from_.length (from_.flatMap Source.row) none,.sl where_.length (where_.flatMap Expr.row) none,.sl order.length (order.flatMap SortKey.row) none,.v (.int .i64 limit)])]/\p=none) (fun f _ _=>(from_.length-eO (f 5)).toNat) [(1,.str [.v (.bool distinct),.sl items.length (items.flatMap Item.row) none,.sl from_.length (from_.flatMap Source.row) none,.sl where_.length (where_.flatMap Expr.row) none,.sl order.length (order.flatMap SortKey.row) none,.v (.int .i64 limit)])] none ⟨ak rfl (aq _),av _,?_⟩ ?_
    ·simp only[tt,seval]
     exact⟨0,rfl,aa,fun j _ h=>absurd h (Nat.not_lt_zero _)⟩
    ·rintro g' L p ⟨i,ix,hi,hall,rfl,rfl⟩
     simp only[tt,seval] at ix
     simp only[tt,seval,ix,Int.ofNat_lt]
     refine fun _=>?_
     refine ab (fun hlt=>?_) (fun hge=>?_)
     ·have hlt:i<from_.length:=by omega
      obtain⟨it,bH⟩:∃it,it=from_[i]:=⟨_,rfl⟩
      refine⟨aa,aa,_,aD Source.row_len (aC hlt),Source.ne _ _,?_⟩
      obtain⟨table,as_,on⟩:=it
      rw[<-bH,Source.row_mk]
      simp only[tt,seval]
      refine cZ (oF table) ?_ ?_<;>simp only[tt,seval]
      cases hnb:decide (1<=table.size/\table.size<=20)
      case false=>
       simp only[tt,seval]
       exact⟨_,_,aY (by rw[hzb];exact (ui distinct items from_ where_ order limit g hlt (by rw[<-bH];simp [lO,bD,hnb])).symm),ao rfl⟩
      simp only[tt,seval]
      refine cZ (kW as_) ?_ ?_<;>simp only[tt,seval]
      cases hm:cE as_
      case false=>
       simp only[tt,seval]
       exact⟨_,_,aY (by rw[hzb];exact (ui distinct items from_ where_ order limit g hlt (by rw[<-bH];simp [lO,bD,hnb,hm])).symm),ao rfl⟩
      simp only[tt,seval]
      refine fun _=>?_
      by_cases c8:(1:Int)<on.length
      case pos=>
       simp only[tt,seval,aF c8]
       exact⟨_,_,aY (by rw[hzb];exact (ui distinct items from_ where_ order limit g hlt (by rw[<-bH];simp only[lO,aG (show ¬on.length<=1 by omega),Bool.false_and,Bool.and_false])).symm),ao rfl⟩
      simp only[tt,seval,aG c8,ix]
      by_cases c9:(i:Int)=0
      case neg=>
       simp only[tt,seval,c9,ix]
       try rw[dW i aa]
       exact⟨_,none,ak rfl (aq _),av _,⟨i+1,rfl,aa,fun j hj hji=>by
        by_cases e:j=i
        ·subst e;rw[<-bH];simp only[lO,bD,hnb,hm,aF (show on.length<=1 by omega),aF (show ¬j=0 by omega),Bool.true_and,Bool.true_or]
        ·exact hall j hj aa,rfl,rfl⟩,aE⟩
      simp only[tt,seval,aF c9,ix]
      refine fun _=>?_
      refine ab (fun G5=>?_) (fun G5=>?_)
      ·exact⟨_,_,aY (by rw[hzb];exact (ui distinct items from_ where_ order limit g hlt (by rw[<-bH];simp only[lO,aG (show ¬ ¬i=0 by omega),aG (show ¬on.length=0 by omega),Bool.or_false,Bool.and_false])).symm),ao rfl⟩
      ·have hi0:i=0:=by omega
       try rw[dW i aa]
       exact⟨_,none,ak rfl (aq _),av _,⟨i+1,rfl,aa,fun j hj hji=>by
        by_cases e:j=i
        ·subst e;rw[<-bH];simp only[lO,bD,hnb,hm,aF (show on.length<=1 by omega),aF (show on.length=0 by omega),Bool.true_and,Bool.or_true]
        ·exact hall j hj aa,rfl,rfl⟩,aE⟩
     ·have hall:=fun j hj=>hall j hj aa
      have hq:=GM distinct items from_ where_ order limit g ⟨aa,aa⟩ ⟨aa,aa⟩ aa aa aa hall1 hall
      have hql:=ej (Query.mk distinct items from_ where_ order limit)
      refine cZ (mZ distinct items from_ where_ order limit hsz) ?_ ?_<;>simp only[tt,seval,bj]
      rw[hq] at hzb
      generalize exprsQ (Query.mk distinct items from_ where_ order limit)=l at *
      refine dLoop.intro (fun f L p=>∃i:Nat,f 8=vi i/\i<=l.length/\(∀j (hj:j<l.length),j<i->g l[j]=true)/\L=[(1,.str [.v (.bool distinct),.sl items.length (items.flatMap Item.row) none,.sl from_.length (from_.flatMap Source.row) none,.sl where_.length (where_.flatMap Expr.row) none,.sl order.length (order.flatMap SortKey.row) none,.v (.int .i64 limit)])]/\p=none) (fun f _ _=>(l.length-eO (f 8)).toNat) [(1,.str [.v (.bool distinct),.sl items.length (items.flatMap Item.row) none,.sl from_.length (from_.flatMap Source.row) none,.sl where_.length (where_.flatMap Expr.row) none,.sl order.length (order.flatMap SortKey.row) none,.v (.int .i64 limit)])] none ⟨ak rfl (aq _),av _,?_⟩ ?_
      ·simp only[tt,seval]
       exact⟨0,rfl,aa,fun j _ h=>absurd h (Nat.not_lt_zero _)⟩
      ·rintro g' L p ⟨i,ix,hi,hal,rfl,rfl⟩
       simp only[tt,seval] at ix
       simp only[tt,seval,ix,Int.ofNat_lt]
       refine fun _=>ab (fun hlt=>?_) (fun hge=>?_)
       ·have hlt:i<l.length:=by omega
        refine⟨aa,aa,_,aD aK (aC hlt),Expr.ne _ _,?_⟩
        simp only[seval,Expr.tk,aK]
        refine cZ (h l[i] (aH hlt)) ?_ ?_<;>simp only[tt,seval,ix]
        refine ab (fun hb=>?_) (fun hb=>?_)
        ·have hb:g l[i]=false:=by simpa only[Bool.not_eq_true'] using hb
         exact⟨_,_,aY (by rw[hzb];exact (gt (aH hlt) hb).symm),ao rfl⟩
        ·have hb:g l[i]=true:=by simpa only[Bool.not_eq_false'] using hb
         try rw[dW i aa]
         exact⟨_,none,ak rfl (aq _),av _,⟨i+1,rfl,aa,fun j hj hji=>by
          by_cases e:j=i
          ·subst e;exact hb
          ·exact hal j hj aa,rfl,rfl⟩,aE⟩
       ·exact⟨_,_,aY (by rw[hzb];exact (km fun j hj=>hal j hj aa).symm),ao rfl⟩
theorem nc {n:Nat} {l:List D} (h:l.length=n):fE n l=some l:=by
 have:=gp (r:=[]) h
 rwa[List.append_nil] at this
theorem AV {kind op:Int} {not:Bool} {val:Val} {qual name:ByteArray} {nk ns:Int} (h:ax kind op not val qual name nk ns=true):ns<=1:=by
 simp only[ax,Bool.and_eq_true,decide_eq_true_eq] at h
 have h:=h.2.2.2.2.2.2
 rw[h];unfold bJ;(repeat' split)<;>decide
theorem sb (kind op:Int) (not:Bool) (val:Val) (qual name:ByteArray) (kids:List Expr) (sub:List Query) (g:Expr->Bool) (hg:∀x,dZ x (Expr.mk kind op not val qual name kids sub)->Cl Tryz.prog 45 [.ag (ar x.row)] [] fun r _=>r=vb (g x)) (hsz:szExpr (Expr.mk kind op not val qual name kids sub)<=1048576):Cl Tryz.prog 45 [.ag (ar (Expr.mk kind op not val qual name kids sub).row)] [] fun r _=>r=vb (rc g (Expr.mk kind op not val qual name kids sub)):=by
 have hks:=hsz
 rw[aZ,aL,bI] at hks
 obtain⟨zb,hzb⟩:∃zb,zb=rc g (Expr.mk kind op not val qual name kids sub):=⟨_,rfl⟩
 rw[<-hzb]
 have e:rc g (Expr.mk kind op not val qual name kids sub)=(ax kind op not val qual name kids.length sub.length&&(kids.all g&&sub.all (j4 g))):=rfl
 rw[e] at hzb
 rw[ai]
 refine am ah false Tryz.func45 rfl ac ?_
 simp only[Tryz.f45,tt,seval]
 refine cZ (yK kind op not val qual name kids sub aa aa) ?_ ?_<;>simp only[tt,seval,ai]
 cases hb:ax kind op not val qual name kids.length sub.length
 case false=>
  simp only[tt,seval]
  exact⟨_,_,aY (by rw[hzb,hb];rfl),ao rfl⟩
 have hns:=AV hb
 rw[hb,Bool.true_and] at hzb
 simp only[tt,seval]
 refine dLoop.intro (fun f L p=>∃i:Nat,f 3=vi i/\i<=kids.length/\(∀j (hj:j<kids.length),j<i->g kids[j]=true)/\L=[(1,.str [.v (.int .i64 kind),.v (.int .i64 op),.v (.bool not),.v (.int .i64 val.kind),.v (.int .i64 val.num),.v (.string val.text),.v (.string qual),.v (.string name),.sl kids.length (kids.flatMap Expr.row) none,.sl sub.length (sub.flatMap Query.row) none])]/\p=none) (fun f _ _=>(kids.length-eO (f 3)).toNat) [(1,.str [.v (.int .i64 kind),.v (.int .i64 op),.v (.bool not),.v (.int .i64 val.kind),.v (.int .i64 val.num),.v (.string val.text),.v (.string qual),.v (.string name),.sl kids.length (kids.flatMap Expr.row) none,.sl sub.length (sub.flatMap Query.row) none])] none ⟨ak rfl (aq _),av _,?_⟩ ?_
 ·simp only[tt,seval]
  exact⟨0,rfl,aa,fun j _ h=>absurd h (Nat.not_lt_zero _)⟩
 ·rintro g' L p ⟨i,ix,hi,hal,rfl,rfl⟩
  simp only[tt,seval] at ix
  simp only[tt,seval,ix,Int.ofNat_lt]
  refine fun _=>ab (fun hlt=>?_) (fun hge=>?_)
  ·have hlt:i<kids.length:=by omega
   refine⟨aa,aa,_,aD aK (aC hlt),Expr.ne _ _,?_⟩
   simp only[seval,Expr.tk,aK]
   refine cZ (hg kids[i] (.inl (aH hlt))) ?_ ?_<;>simp only[tt,seval,ix]
   refine ab (fun hb=>?_) (fun hb=>?_)
   ·have hb:g kids[i]=false:=by simpa only[Bool.not_eq_true'] using hb
    exact⟨_,_,aY (by rw[hzb,gt (aH hlt) hb];rfl),ao rfl⟩
   ·have hb:g kids[i]=true:=by simpa only[Bool.not_eq_false'] using hb
    try rw[dW i aa]
    exact⟨_,none,ak rfl (aq _),av _,⟨i+1,rfl,aa,fun j hj hji=>by
     by_cases e:j=i
     ·subst e;exact hb
     ·exact hal j hj aa,rfl,rfl⟩,aE⟩
  ·rw[km fun j hj=>hal j hj aa,Bool.true_and] at hzb
   refine fun _=>?_
   rcases sub with _|⟨q,_|⟨q2,rest⟩⟩
   ·simp only[tt,seval]
    exact⟨_,_,aY (by rw[hzb];rfl),ao rfl⟩
   ·simp only[tt,seval]
    refine⟨q.row++[],by simp,Query.ne _ _,?_⟩
    simp only[tt,seval,nc (Query.row_len q),Query.row_len]
    refine cZ (pO q g (fun x hx=>hg x (.inr ⟨q,by show q∈[q];simp,hx⟩)) (Nat.le_trans (lx (e:=(Expr.mk kind op not val qual name kids [q])) (by show q∈[q];simp)) hsz)) ?_ ?_<;>simp only[tt,seval]
    exact⟨_,_,aY (by rw[hzb];simp),ao rfl⟩
   ·simp only[List.length_cons] at hns;omega
theorem yL (e:Expr):szExpr e<=1048576->Cl Tryz.prog 45 [.ag (ar e.row)] [] fun r _=>r=vb (fmE e):=by
 refine gk (P:=fun e b=>szExpr e<=1048576->Cl Tryz.prog 45 [.ag (ar e.row)] [] fun r _=>r=vb b) (fun e g hg hsz=>?_) e
 obtain⟨kind,op,not,val,qual,name,kids,sub⟩:=e
 exact sb kind op not val qual name kids sub g (fun x hx=>hg x hx (Nat.le_trans (gx hx) hsz)) hsz
theorem vV (e:Expr):szExpr e<=1048576->Cl Tryz.prog 77 [.ag (ar e.row)] [] fun r _=>r=vb (fmE e):=by
 refine gk (P:=fun e b=>szExpr e<=1048576->Cl Tryz.prog 77 [.ag (ar e.row)] [] fun r _=>r=vb b) (fun e g hg hsz=>?_) e
 obtain⟨kind,op,not,val,qual,name,kids,sub⟩:=e
 have hks:=hsz
 rw[aZ,aL,bI] at hks
 have hg:=fun x hx=>hg x hx (Nat.le_trans (gx hx) hsz)
 exact qz kind op not val qual name kids sub g (fun x hx=>hg x (.inl hx)) (fun q hq=>nW q g (fun x hx=>hg x (.inr ⟨q,hq,hx⟩)) (Nat.le_trans (lx (e:=(Expr.mk kind op not val qual name kids sub)) hq) hsz)) aa aa
noncomputable def uj (e:Expr):Bool:=decide (dpE e<=24)&&(decide (ndE e<=200)&&fmE e)
theorem yM (d n:Nat):Cl Tryz.prog 74 [vi d,vi n] [] fun r _=>r=vb (decide (d<=24)&&decide (n<=200)):=by
 refine am ah false Tryz.func74 rfl ac ?_
 simp only[Tryz.f74,tt,seval]
 by_cases h1:(d:Int)<=24
 ·simp only[tt,seval,aF h1]
  exact⟨_,_,aY (by rw[aF (show d<=24 by omega),Bool.true_and];exact decide_eq_decide.2 aa),ao rfl⟩
 ·simp only[tt,seval,aG h1]
  exact⟨_,_,aY (by rw[aG (show ¬d<=24 by omega)];rfl),ao rfl⟩
theorem yN (e:Expr) (hsz:szExpr e<=1048576):Cl Tryz.prog 35 [.ag (ar e.row)] [] fun r _=>r=vb (uj e):=by
 obtain⟨zb,hzb⟩:∃zb,zb=uj e:=⟨_,rfl⟩
 rw[<-hzb]
 rw[uj] at hzb
 have c1:=(vQ e).1 hsz
 have c2:=(AL e).1 hsz
 have c3:=vV e hsz
 obtain⟨kind,op,not,val,qual,name,kids,sub⟩:=e
 generalize dpE (Expr.mk kind op not val qual name kids sub)=d at *
 generalize ndE (Expr.mk kind op not val qual name kids sub)=n at *
 generalize fmE (Expr.mk kind op not val qual name kids sub)=b at *
 rw[ai] at c1 c2 c3 ⊢
 refine am ah false Tryz.func35 rfl ac ?_
 simp only[Tryz.f35,tt,seval]
 refine dDrawn.intro [] (kV [0,4,3,7,9,10,12,15,16,18]) ac ?_
 simp only[tt,seval]
 refine cZ (c1) ?_ ?_<;>simp only[tt,seval]
 refine cZ (c2) ?_ ?_<;>simp only[tt,seval]
 refine cZ (yM d n) ?_ ?_<;>simp only[tt,seval]
 cases hb:(decide (d<=24)&&decide (n<=200))
 ·simp only[tt,seval]
  exact⟨_,_,aY (by rw[hzb,<-Bool.and_assoc,hb];rfl),ao rfl⟩
 ·simp only[tt,seval]
  refine cZ (c3) ?_ ?_<;>simp only[tt,seval]
  exact⟨_,_,aY (by rw[hzb,<-Bool.and_assoc,hb];rfl),ao rfl⟩
theorem AW (e:Expr) (hsz:szExpr e<=1048576):Cl Tryz.prog 14 [.ag (ar e.row)] [] fun r _=>r=vb (uj e):=by
 obtain⟨zb,hzb⟩:∃zb,zb=uj e:=⟨_,rfl⟩
 rw[<-hzb]
 rw[uj] at hzb
 have c1:=(yH e).1 hsz
 have c2:=AN e hsz 200 aa aa
 have c3:=yL e hsz
 obtain⟨kind,op,not,val,qual,name,kids,sub⟩:=e
 generalize dpE (Expr.mk kind op not val qual name kids sub)=d at *
 generalize ndE (Expr.mk kind op not val qual name kids sub)=n at *
 generalize fmE (Expr.mk kind op not val qual name kids sub)=b at *
 rw[ai] at c1 c2 c3 ⊢
 refine am ah false Tryz.func14 rfl ac ?_
 simp only[Tryz.f14,tt,seval]
 refine cZ (c2) ?_ ?_<;>simp only[tt,seval]
 by_cases h2:n<=200
 case neg=>
  have h0:cz 200 n<0:=by unfold cz;split<;>omega
  simp only[tt,seval,aG (show ¬(0:Int)<=cz 200 n by omega)]
  exact⟨_,_,aY (by rw[hzb,aG h2,Bool.false_and,Bool.and_false]),ao rfl⟩
 have h0:0<=cz 200 n:=by unfold cz;split<;>omega
 simp only[tt,seval,aF h0]
 refine cZ (c3) ?_ ?_<;>simp only[tt,seval]
 cases b
 case false=>
  simp only[tt,seval]
  exact⟨_,_,aY (by rw[hzb,Bool.and_false,Bool.and_false]),ao rfl⟩
 simp only[tt,seval]
 refine cZ (c1) ?_ ?_<;>simp only[tt,seval]
 exact⟨_,_,aY (by rw[hzb,aF h2,Bool.and_true,Bool.and_true];exact decide_eq_decide.2 aa),ao rfl⟩
theorem ll:(∀a b:List Tok,(a++b).length=a.length+b.length)/\(∀(t:Tok) (a:List Tok),(t::a).length=a.length+1)/\([]:List Tok).length=0:=⟨fun _ _=>aA,fun _ _=>List.length_cons,rfl⟩
def kT (k:Nat):Tok:=⟨1,kw k,0⟩
def gT (s:ByteArray):Tok:=⟨5,s,0⟩
def nT (s:ByteArray):Tok:=⟨2,s,0⟩
def iT (n:Int):Tok:=⟨3,dX n,0⟩
def jj:Tok:=gT ⟨#[40]⟩
def jy:Tok:=gT ⟨#[41]⟩
def dv:Tok:=gT ⟨#[44]⟩
def Hl:Tok:=gT ⟨#[46]⟩
def DB:Tok:=gT ⟨#[42]⟩
def gK (v:Val):Tok:=if v.kind=1 then iT v.num else if v.kind=2 then ⟨4,v.text,0⟩ else if v.kind=3 then (if v.num=1 then kT 21 else kT 22) else kT 20
def dJ (op:Int):Tok:=⟨if op=1∨op=2∨op=15 then 1 else 5,iC op,0⟩
def cC (q:ByteArray):List Tok:=if q=⟨#[]⟩ then [] else [nT q,Hl]
def du (a:ByteArray):List Tok:=if a=⟨#[]⟩ then [] else [kT 12,nT a]
def cm (b:Bool):List Tok:=if b=true then [kT 15] else []
def ng (w:Bool) (l:List Tok):List Tok:=if w=true then jj::(l++[jy]) else l
def zeroX:Expr:=.mk 0 0 false ⟨0,0,⟨#[]⟩⟩ ⟨#[]⟩ ⟨#[]⟩ [] []
def DC (full:Bool) (kind op:Int) (kids:List Expr) (k:Nat):Bool:=nw kind op kids k||(full&&decide (lT (kids.getD k zeroX)<9))
def aN (full:Bool) (g:Expr->List Tok) (kind op:Int) (kids:List Expr) (k:Nat):List Tok:=ng (DC full kind op kids k) (g (kids.getD k zeroX))
def bB (f:Nat->List Tok) (n:Nat):List Tok:=(List.range n).flatMap f
theorem dK (f:Nat->List Tok) (n:Nat):bB f (n+1)=bB f n++f n:=by
 unfold bB
 rw[List.range_succ,List.flatMap_append];simp
theorem yO (f:Nat->List Tok) {k m:Nat} (h:k<=m):(bB f k).length<=(bB f m).length:=by
 induction m with
 |zero=>rw[Nat.le_zero.1 h];exact Nat.le_refl _
 |succ m ih=>
  by_cases e:k=m+1
  ·subst e;exact Nat.le_refl _
  ·rw[dK,aA];exact Nat.le_trans (ih aa) (Nat.le_add_right _ _)
theorem oz (f:Nat->List Tok) {k m:Nat} (h:k<m):(bB f k).length+(f k).length<=(bB f m).length:=by
 have:=yO f (show k+1<=m from h)
 rwa[dK,aA] at this
def nX {α:Type} (l:List α) (h:α->List Tok) (i:Nat):List Tok:=match l[i]? with|some x=>h x|none=>[]
theorem ef {α:Type} {l:List α} {h:α->List Tok} {i:Nat} (hi:i<l.length):nX l h i=h l[i]:=by rw[nX,aC hi]
def jB (i:Nat):List Tok:=if 0<i then [dv] else []
def df (g:Expr->List Tok):Item->List Tok | .mk star qual e as_=>if star=true then cC qual++[DB] else g e++du as_
def uK (g:Expr->List Tok):List Expr->List Tok | []=>[]|e::_=>kT 5::g e
def fU (g:Expr->List Tok) (i:Nat):Source->List Tok | .mk table as_ on=>(if 0<i then (if 0<on.length then [kT 4] else [dv]) else [])++(nT table::(du as_++uK g on))
def pQ (g:Expr->List Tok):List Expr->List Tok | []=>[]|e::_=>kT 6::g e
def iv (g:Expr->List Tok):SortKey->List Tok | .mk e desc=>g e++(if desc=true then [kT 10] else [])
def jk (n:Int):List Tok:=if 0<=n then [kT 11,iT n] else []
def dC (g:Expr->List Tok) (items:List Item) (i:Nat):List Tok:=jB i++nX items (df g) i
def fI (g:Expr->List Tok) (from_:List Source) (i:Nat):List Tok:=nX from_ (fU g i) i
def fJ (g:Expr->List Tok) (order:List SortKey) (i:Nat):List Tok:=(if i=0 then [kT 7,kT 8] else [dv])++nX order (iv g) i
def gb (g:Expr->List Tok):Query->List Tok
 |.mk distinct items from_ where_ order limit=>
  kT 1::((if distinct=true then [kT 2] else [])++(bB (dC g items) items.length++(kT 3::(bB (fI g from_) from_.length++(pQ g where_++(bB (fJ g order) order.length++jk limit))))))
def nM (g:Expr->List Tok):List Query->List Tok | []=>[]|q::_=>gb g q
def sI (full:Bool) (g:Expr->List Tok) (kind op:Int) (kids:List Expr) (j:Nat):List Tok:=jB j++aN full g kind op kids (j+1)
def jz (full:Bool) (g:Expr->List Tok):Expr->List Tok
 |.mk kind op not val qual name kids sub=>
  if kind=1 then [gK val] else if kind=2 then cC qual++[nT name] else if kind=3 then dJ op::aN full g kind op kids 0 else if kind=9 then kT 19::jj::(nM g sub++[jy]) else
  aN full g kind op kids 0++(if kind=4 then dJ op::aN full g kind op kids 1 else if kind=5 then kT 16::(cm not++[kT 20]) else if kind=6 then cm not++(kT 18::(aN full g kind op kids 1++(kT 13::aN full g kind op kids 2))) else
   cm not++(kT 17::jj::((if kind=8 then nM g sub else bB (sI full g kind op kids) (kids.length-1))++[jy])))
noncomputable def dL (full:Bool):Expr->List Tok:=d7 (jz full)
def Query.lim:Query->Int | .mk _ _ _ _ _ l=>l
inductive Rg:Expr->Prop
 |mk {kind op:Int} {not:Bool} {val:Val} {qual name:ByteArray} {kids:List Expr} {sub:List Query}:(-9223372036854775808<=val.num/\val.num<=9223372036854775807)->(∀k,k∈kids->Rg k)->(∀q,q∈sub->q.lim<=9223372036854775807)->(∀q,q∈sub->∀x,x∈exprsQ q->Rg x)->Rg (.mk kind op not val qual name kids sub)
def Jm (q:Query):Prop:=q.lim<=9223372036854775807/\∀x,x∈exprsQ q->Rg x
theorem Rg.num {kind op:Int} {not:Bool} {val:Val} {qual name:ByteArray} {kids:List Expr} {sub:List Query} (h:Rg (.mk kind op not val qual name kids sub)) : -9223372036854775808<=val.num/\val.num<=9223372036854775807:=by cases h;assumption
theorem sc {x e:Expr} (h:Rg e) (hb:dZ x e):Rg x:=by
 cases h with
 |mk h1 h2 h3 h4=>
  rcases hb with hb|⟨q,hq,hb⟩
  ·exact h2 x hb
  ·exact h4 q hq x hb
theorem vW {q:Query} {e:Expr} (h:Rg e) (hq:q∈e.sub):Jm q:=by
 cases h with
 |mk h1 h2 h3 h4=>exact⟨h3 q hq,h4 q hq⟩
theorem jl {α β γ:Type} [Inhabited α] [Inhabited β] [Inhabited γ] {F1:(Expr->α)->Expr->α} {F2:(Expr->β)->Expr->β} {F3:(Expr->γ)->Expr->γ} {P:Expr->α->β->γ->Prop}
 (h:∀e g1 g2 g3,(∀x,dZ x e->P x (g1 x) (g2 x) (g3 x))->P e (F1 g1 e) (F2 g2 e) (F3 g3 e)) (e:Expr):P e (d7 F1 e) (d7 F2 e) (d7 F3 e):=by
 suffices H:∀n:Nat,∀e:Expr,SizeOf.sizeOf e<n->P e (d7 F1 e) (d7 F2 e) (d7 F3 e) from H _ e (Nat.lt_succ_self _)
 intro n
 induction n with
 |zero=>exact fun _ h=>absurd h (Nat.not_lt_zero _)
 |succ n ih=>
  intro e he
  rw[d7,d7,d7]
  refine h e _ _ _ fun x hx=>?_
  have:=jK hx
  simp only[dif_pos this]
  exact ih x aa
theorem uk:∀k:Nat,(kw k).size<=40:=fun k=>by
 by_cases h:k<29
 ·exact (by decide:∀k:Fin 29,(kw k.1).size<=40) ⟨k,h⟩
 ·have:kw k=⟨#[]⟩:=by
   unfold kw
   rw[List.getD_eq_getElem?_getD,List.getElem?_eq_none (by show 29<=k;omega)];rfl
  rw[this];decide
theorem cW (k:Nat):(kT k).text.size<=40:=uk k
theorem rd (op:Int):(iC op).size<=40:=by
 unfold iC
 split
 ·rename_i h
  have e:op.toNat<17:=by omega
  exact (by decide:∀k:Fin 17,(Gb.getD k.1 ⟨#[]⟩).size<=40) ⟨op.toNat,e⟩
 ·decide
theorem nN {n:Int} (h0 : -9223372036854775808<=n) (h1:n<=9223372036854775807):(dX n).size<=40:=by
 have:=sP h0 h1
 show ((Lib.itoa n).toArray).size<=40
 rw[List.size_toArray];omega
def Sm (n:Nat) (l:List Tok):Prop:=l.length<=n/\∀t∈l,t.text.size<=40
theorem Sm.nil:Sm 0 []:=⟨Nat.le_refl _,fun t h=>by cases h⟩
theorem Sm.cons {n:Nat} {t:Tok} {l:List Tok} (h:t.text.size<=40) (hl:Sm n l):Sm (n+1) (t::l):=⟨by simp;exact hl.1,fun x hx=>by
 rcases List.mem_cons.1 hx with rfl|hx
 ·exact h
 ·exact hl.2 x hx⟩
theorem Sm.app {n m:Nat} {a b:List Tok} (h:Sm n a) (k:Sm m b):Sm (n+m) (a++b):=⟨by rw[aA];have:=h.1;have:=k.1;omega,fun x hx=>by
 rcases List.mem_append.1 hx with hx|hx
 ·exact h.2 x hx
 ·exact k.2 x hx⟩
theorem Sm.le {n m:Nat} {l:List Tok} (h:Sm n l) (k:n<=m):Sm m l:=⟨Nat.le_trans h.1 k,h.2⟩
theorem Sm.one {t:Tok} (h:t.text.size<=40):Sm 1 [t]:=Sm.cons h Sm.nil
theorem Sm.ite {c:Prop} [Decidable c] {n:Nat} {a b:List Tok} (h:Sm n a) (k:Sm n b):Sm n (if c then a else b):=by split<;>assumption
theorem Sm.seq {f:Nat->List Tok} {b:Nat->Nat} {n:Nat} (h:∀i,i<n->Sm (b i) (f i)):Sm (((List.range n).map b).sum) (bB f n):=by
 induction n with
 |zero=>exact Sm.nil
 |succ n ih=>
  rw[dK,List.range_succ,List.map_append,List.sum_append,List.map_singleton,List.sum_singleton]
  exact (ih fun i hi=>h i aa).app (h n aa)
def pR {α:Type} (d:α->Nat):Option α->Nat
 |some x=>d x
 |none=>0
theorem kX {α:Type} (l:List α) (c:Nat) (d:α->Nat):((List.range l.length).map fun i=>c+pR (fun x=>d x) l[i]?).sum=c*l.length+(l.map d).sum:=by
 have e:∀l:List α,(List.range l.length).map (fun i=>c+pR (fun x=>d x) l[i]?)=l.map fun x=>c+d x:=by
  intro l
  refine List.ext_getElem (by simp) fun i h1 h2=>?_
  simp only[List.length_map,List.length_range] at h1
  simp [h1,pR]
 rw[e]
 induction l with
 |nil=>simp
 |cons x r ih=>simp only[List.map_cons,List.sum_cons,List.length_cons,ih,Nat.mul_add];omega
theorem EV {v:Val} (h:ir v=true) (hr : -9223372036854775808<=v.num/\v.num<=9223372036854775807):(gK v).text.size<=40:=by
 simp only[ir,Bool.and_eq_true,decide_eq_true_eq] at h
 unfold gK
 split
 ·exact nN hr.1 hr.2
 ·split
  ·exact h.2.2
  ·split
   ·split<;>exact cW _
   ·exact cW _
theorem xE {q:ByteArray} (h:cE q=true):Sm 2 (cC q):=by
 unfold cC
 split
 ·exact Sm.nil.le aa
 ·rename_i hq
  simp only[cE,bD,Bool.or_eq_true,decide_eq_true_eq,hq,false_or] at h
  exact Sm.cons (by show q.size<=40;omega) (Sm.one ae)
theorem DD {q:ByteArray} (h:cE q=true):Sm 2 (du q):=by
 unfold du
 split
 ·exact Sm.nil.le aa
 ·rename_i hq
  simp only[cE,bD,Bool.or_eq_true,decide_eq_true_eq,hq,false_or] at h
  exact Sm.cons (cW _) (Sm.one (by show q.size<=40;omega))
theorem sd (b:Bool):Sm 1 (cm b):=Sm.ite (Sm.one (cW _)) (Sm.nil.le aa)
theorem EW {w:Bool} {n:Nat} {l:List Tok} (h:Sm n l):Sm (n+2) (ng w l):=Sm.ite ((Sm.cons ae (h.app (Sm.one ae))).le aa) (h.le aa)
theorem ul {kind op:Int} {not:Bool} {val:Val} {qual name:ByteArray} {nk ns:Int} (h:ax kind op not val qual name nk ns=true) :
 cA kind op val qual name=true/\((bJ kind).2.2.2.2.1<=nk/\nk<=(bJ kind).2.2.2.2.2.1)/\ns=(bJ kind).2.2.2.2.2.2:=by
 simp only[ax,Bool.and_eq_true,decide_eq_true_eq] at h
 exact⟨h.1,h.2.2.2.2.2.1,h.2.2.2.2.2.2⟩
theorem hY {kind op:Int} {not:Bool} {val:Val} {qual name:ByteArray} {nk ns:Int} (h:ax kind op not val qual name nk ns=true) :
 (kind=1/\ir val=true/\nk=0/\ns=0)∨(kind=2/\bD name=true/\cE qual=true/\nk=0/\ns=0)∨(kind=3/\(op=15∨op=16)/\nk=1/\ns=0)∨(kind=4/\(1<=op/\op<=14)/\nk=2/\ns=0)∨(kind=5/\nk=1/\ns=0)∨(kind=6/\nk=3/\ns=0)∨(kind=7/\(2<=nk/\nk<=9)/\ns=0)∨(kind=8/\nk=1/\ns=1)∨(kind=9/\nk=0/\ns=1):=by
 obtain⟨h1,h6,h7⟩:=ul h
 clear h
 by_cases k1:kind=1
 ·subst k1;exact .inl ⟨rfl,h1,by have:0<=nk/\nk<=0:=h6;omega,h7⟩
 by_cases k2:kind=2
 ·subst k2
  have h1:(bD name&&cE qual)=true:=h1
  simp only[Bool.and_eq_true] at h1
  exact .inr (.inl ⟨rfl,h1.1,h1.2,by have:0<=nk/\nk<=0:=h6;omega,h7⟩)
 by_cases k3:kind=3
 ·subst k3
  have h1:(decide (op=15)||decide (op=16))=true:=h1
  simp only[Bool.or_eq_true,decide_eq_true_eq] at h1
  exact .inr (.inr (.inl ⟨rfl,h1,by have:1<=nk/\nk<=1:=h6;omega,h7⟩))
 by_cases k4:kind=4
 ·subst k4
  have h1:decide (1<=op/\op<=14)=true:=h1
  simp only[decide_eq_true_eq] at h1
  exact .inr (.inr (.inr (.inl ⟨rfl,h1,by have:2<=nk/\nk<=2:=h6;omega,h7⟩)))
 simp only[cA,if_neg k1,if_neg k2,if_neg k3,if_neg k4,decide_eq_true_eq] at h1
 rcases (show kind=5∨kind=6∨kind=7∨kind=8∨kind=9 by omega) with rfl|rfl|rfl|rfl|rfl
 ·exact .inr (.inr (.inr (.inr (.inl ⟨rfl,by have:1<=nk/\nk<=1:=h6;omega,h7⟩))))
 ·exact .inr (.inr (.inr (.inr (.inr (.inl ⟨rfl,by have:3<=nk/\nk<=3:=h6;omega,h7⟩)))))
 ·exact .inr (.inr (.inr (.inr (.inr (.inr (.inl ⟨rfl,h6,h7⟩))))))
 ·exact .inr (.inr (.inr (.inr (.inr (.inr (.inr (.inl ⟨rfl,by have:1<=nk/\nk<=1:=h6;omega,h7⟩)))))))
 ·exact .inr (.inr (.inr (.inr (.inr (.inr (.inr (.inr ⟨rfl,by have:0<=nk/\nk<=0:=h6;omega,h7⟩)))))))
theorem kp {gf:Expr->Bool} {kind op:Int} {not:Bool} {val:Val} {qual name:ByteArray} {kids:List Expr} {sub:List Query} (h:rc gf (.mk kind op not val qual name kids sub)=true) :
 ax kind op not val qual name kids.length sub.length=true/\(∀x∈kids,gf x=true)/\∀q∈sub,j4 gf q=true:=by
 simp only[rc,Bool.and_eq_true,List.all_eq_true] at h
 exact h
theorem kq {gf:Expr->Bool} {distinct:Bool} {items:List Item} {from_:List Source} {where_:List Expr} {order:List SortKey} {limit:Int} (h:j4 gf (.mk distinct items from_ where_ order limit)=true) :
 (1<=items.length/\items.length<=12)/\(1<=from_.length/\from_.length<=3)/\where_.length<=1/\order.length<=12 /\ -1<=limit/\(∀x∈items,lN x=true)/\(∀i (hi:i<from_.length),lO i from_[i]=true)/\∀x∈exprsQ (.mk distinct items from_ where_ order limit),gf x=true:=by
 simp only[j4,hdB,Bool.and_eq_true,List.all_eq_true,decide_eq_true_eq] at h
 obtain⟨⟨h1,h2,h3,h4,h5,h6,h7⟩,h8⟩:=h
 refine⟨h1,h2,h3,h4,h5,h6,fun i hi=>?_,h8⟩
 have:=List.all_eq_true.1 h7 i (List.mem_range.2 hi)
 rwa[aC hi] at this
theorem fK {α:Type} {l:List α} (h:(l.length:Int)=1):∃a,l=[a]:=by
 match l,h with
 | [a],_=>exact⟨a,rfl⟩
 | [],h=>simp at h
 |_::_::_,h=>simp at h;omega
theorem lj {α:Type} {l:List α} (h:(l.length:Int)=0):l=[]:=List.eq_nil_of_length_eq_zero aa
theorem AX {α:Type} {l:List α} (h:(l.length:Int)=2):∃a b,l=[a,b]:=by
 match l,h with
 | [a,b],_=>exact⟨a,b,rfl⟩
 | [],h=>simp at h
 | [_],h=>simp at h
 |_::_::_::_,h=>simp at h;omega
theorem AY {α:Type} {l:List α} (h:(l.length:Int)=3):∃a b c,l=[a,b,c]:=by
 match l,h with
 | [a,b,c],_=>exact⟨a,b,c,rfl⟩
 | [],h=>simp at h
 | [_],h=>simp at h
 | [_,_],h=>simp at h
 |_::_::_::_::_,h=>simp at h;omega
section
variable {gn:Expr->Nat} {g:Expr->List Tok}
def dI (gn:Expr->Nat) (x:Item):Nat:=if x.star=true then 0 else 150*gn x.e
theorem CH {x:Item} (hx:lN x=true) (h:x.star=false->Sm (150*gn x.e) (g x.e)):Sm (3+dI gn x) (df g x):=by
 obtain⟨star,qual,e,as_⟩:=x
 cases star with
 |true=>
  simp only[lN,if_true,Bool.and_eq_true] at hx
  show Sm _ (cC qual++[DB])
  exact ((xE hx.1).app (Sm.one ae)).le (Nat.le_add_right _ _)
 |false=>
  simp only[lN,Bool.false_eq_true,if_false,Bool.and_eq_true] at hx
  show Sm (3+150*gn e) (g e++du as_)
  exact ((h rfl).app (DD hx.2)).le (by show 150*gn e+2<=_;omega)
theorem AZ:∀l:List Item,(l.map (dI gn)).sum=150*((aU l).map gn).sum
 | []=>rfl
 |.mk s q e a::r=>by
  have ih:=AZ r
  cases s with
  |true=>
   have h:aU (.mk true q e a::r)=aU r:=rfl
   rw[h,<-ih,List.map_cons,List.sum_cons]
   show 0+_=_;omega
  |false=>
   have h:aU (.mk false q e a::r)=e::aU r:=rfl
   rw[h,List.map_cons,List.sum_cons,List.map_cons,List.sum_cons,Nat.mul_add,<-ih]
   rfl
theorem GN {l:List Expr} (h:∀x∈l,Sm (150*gn x) (g x)):Sm (1+150*(l.map gn).sum) (uK g l):=by
 cases l with
 |nil=>exact Sm.nil.le (Nat.zero_le _)
 |cons e r=>exact (Sm.cons (cW _) (h e (by simp))).le (by rw[List.map_cons,List.sum_cons];omega)
theorem GP {l:List Expr} (h:∀x∈l,Sm (150*gn x) (g x)):Sm (1+150*(l.map gn).sum) (pQ g l):=by
 cases l with
 |nil=>exact Sm.nil.le (Nat.zero_le _)
 |cons e r=>exact (Sm.cons (cW _) (h e (by simp))).le (by rw[List.map_cons,List.sum_cons];omega)
theorem EX {x:Source} {i:Nat} (hx:lO i x=true) (h:∀y∈x.on,Sm (150*gn y) (g y)):Sm (5+150*(x.on.map gn).sum) (fU g i x):=by
 obtain⟨table,as_,on⟩:=x
 simp only[lO,Bool.and_eq_true,bD,decide_eq_true_eq] at hx
 show Sm (5+150*(on.map gn).sum) ((if 0<i then (if 0<on.length then [kT 4] else [dv]) else [])++(nT table::(du as_++uK g on)))
 exact ((Sm.ite (Sm.ite (Sm.one (cW _)) (Sm.one ae)) (Sm.nil.le aa:Sm 1 [])).app (Sm.cons (by show table.size<=40;omega) ((DD hx.2.1).app (GN (l:=on) h)))).le aa
theorem CI {x:SortKey} (h:Sm (150*gn x.e) (g x.e)):Sm (1+150*gn x.e) (iv g x):=by
 obtain⟨e,desc⟩:=x
 exact (Sm.app h (Sm.ite (Sm.one (cW _)) (Sm.nil.le aa:Sm 1 []))).le (by show 150*gn e+1<=1+150*gn e;omega)
theorem CJ (l:List Source):(l.map fun x=>150*(x.on.map gn).sum).sum=150*((l.flatMap Source.on).map gn).sum:=by
 induction l with
 |nil=>rfl
 |cons x r ih=>rw[List.map_cons,List.sum_cons,ih,List.flatMap_cons,List.map_append,List.sum_append,Nat.mul_add]
theorem xF {α:Type} (c:Nat) (f:α->Nat) (l:List α):(l.map fun x=>c*f x).sum=c*(l.map f).sum:=by
 induction l with
 |nil=>rfl
 |cons x r ih=>rw[List.map_cons,List.sum_cons,ih,List.map_cons,List.sum_cons,Nat.mul_add]
theorem HI {gf:Expr->Bool} {q:Query} (hq:j4 gf q=true) (hl:q.lim<=9223372036854775807) (h:∀x∈exprsQ q,Sm (150*gn x) (g x)):Sm (105+150*((exprsQ q).map gn).sum) (gb g q):=by
 obtain⟨distinct,items,from_,where_,order,limit⟩:=q
 obtain⟨⟨_,a1⟩,⟨_,a2⟩,a3,a4,a5,a6,a7,_⟩:=kq hq
 have hl:limit<=9223372036854775807:=hl
 have e:exprsQ (.mk distinct items from_ where_ order limit)=aU items++from_.flatMap Source.on++where_++order.map SortKey.e:=rfl
 rw[e] at h ⊢
 have s1:Sm _ (bB (dC g items) items.length):=Sm.seq (b:=fun i=>4+pR (fun x=>dI gn x) items[i]?) fun i hi=>by
  have hm:=aH hi
  have:=CH (gn:=gn) (g:=g) (a6 _ hm) fun hs=>h _ (by
   simp only[List.mem_append,aU,List.mem_map,List.mem_filter]
   exact .inl (.inl (.inl ⟨_,⟨hm,by rw[hs];rfl⟩,rfl⟩)))
  show Sm _ (jB i++nX items (df g) i)
  rw[ef hi]
  simp only[aC hi,pR]
  exact ((Sm.ite (Sm.one ae) (Sm.nil.le aa:Sm 1 [])).app this).le aa
 have s2:Sm _ (bB (fI g from_) from_.length):=Sm.seq (b:=fun i=>5+pR (fun x=>150*(x.on.map gn).sum) from_[i]?) fun i hi=>by
  have hm:=aH hi
  have:=EX (gn:=gn) (g:=g) (a7 _ hi) fun y hy=>h _ (by
   simp only[List.mem_append,List.mem_flatMap]
   exact .inl (.inl (.inr ⟨_,hm,hy⟩)))
  show Sm _ (nX from_ (fU g i) i)
  rw[ef hi]
  simp only[aC hi,pR]
  exact this
 have s3:Sm _ (bB (fJ g order) order.length):=Sm.seq (b:=fun i=>3+pR (fun x=>150*gn x.e) order[i]?) fun i hi=>by
  have hm:=aH hi
  have:=CI (gn:=gn) (g:=g) (x:=order[i]) (h _ (by
   simp only[List.mem_append,List.mem_map]
   exact .inr ⟨_,hm,rfl⟩))
  show Sm _ ((if i=0 then [kT 7,kT 8] else [dv])++nX order (iv g) i)
  rw[ef hi]
  simp only[aC hi,pR]
  exact ((Sm.ite (Sm.cons (cW _) (Sm.one (cW _))) ((Sm.one ae).le aa)).app this).le aa
 rw[kX items 4 (dI gn),AZ] at s1
 rw[kX from_ 5 (fun x=>150*(x.on.map gn).sum),CJ] at s2
 rw[kX order 3 (fun x=>150*gn x.e),show (fun x:SortKey=>150*gn x.e)=(fun x=>150*(fun y:SortKey=>gn y.e) x) from rfl,xF] at s3
 have s4:Sm (1+150*(where_.map gn).sum) (pQ g where_):=GP fun x hx=>h x (by simp [hx])
 have s5:Sm 2 (jk limit):=by
  unfold jk
  split
  ·exact Sm.cons (cW _) (Sm.one (nN aa hl))
  ·exact Sm.nil.le aa
 have e2:((order.map SortKey.e).map gn).sum=(order.map fun y:SortKey=>gn y.e).sum:=by rw[List.map_map];rfl
 rw[List.map_append,List.map_append,List.map_append,List.sum_append,List.sum_append,List.sum_append,e2]
 exact (Sm.cons (cW _) ((Sm.ite (Sm.one (cW _)) (Sm.nil.le aa:Sm 1 [])).app (s1.app (Sm.cons (cW _) (s2.app (s4.app (s3.app s5))))))).le aa
theorem CK {full:Bool} {gf:Expr->Bool} {e:Expr} (hf:rc gf e=true) (hr:Rg e) (h:∀x,dZ x e->gf x=true->Rg x->Sm (150*gn x) (g x)):Sm (150*xy gn e) (jz full g e):=by
 have hb:∀x,dZ x e->Rg x:=fun x hx=>sc hr hx
 have hsub:∀q∈e.sub,q.lim<=9223372036854775807:=fun q hq=>(vW hr hq).1
 obtain⟨kind,op,not,val,qual,name,kids,sub⟩:=e
 have hnum:=hr.num
 obtain⟨hs,hk,hq⟩:=kp hf
 have hkid:∀k (hk':k<kids.length),Sm (150*gn kids[k]+2) (aN full g kind op kids k):=fun k hk'=>by
  have hm:=aH hk'
  rw[aN,List.getD_eq_getElem?_getD,aC hk']
  exact EW (h _ (.inl hm) (hk _ hm) (hb _ (.inl hm)))
 have hqs:∀q∈sub,Sm (105+150*((exprsQ q).map gn).sum) (gb g q):=fun q hm=>HI (hq q hm) (hsub q hm) fun x hx=>by
  obtain⟨d,it,fr,wh,od,li⟩:=q
  exact h x (.inr ⟨_,hm,hx⟩) ((kq (hq _ hm)).2.2.2.2.2.2.2 x hx) (hb _ (.inr ⟨_,hm,hx⟩))
 have en:xy gn (.mk kind op not val qual name kids sub)=1+(kids.map gn).sum+(sub.map fun q=>((exprsQ q).map gn).sum).sum:=rfl
 rw[en]
 rcases hY hs with⟨rfl,hl,hk0,hs0⟩|⟨rfl,hn,hm,hk0,hs0⟩|⟨rfl,ho,hk0,hs0⟩|⟨rfl,ho,hk0,hs0⟩|⟨rfl,hk0,hs0⟩|⟨rfl,hk0,hs0⟩|⟨rfl,hk0,hs0⟩|⟨rfl,hk0,hs0⟩|⟨rfl,hk0,hs0⟩
 ·show Sm _ [gK val]
  exact (Sm.one (EV hl hnum)).le aa
 ·show Sm _ (cC qual++[nT name])
  simp only[bD,decide_eq_true_eq] at hn
  exact ((xE hm).app (Sm.one (by show name.size<=40;omega))).le aa
 ·obtain⟨a,rfl⟩:=fK hk0
  show Sm _ (dJ op::aN full g 3 op [a] 0)
  have k0:=hkid 0 (by simp)
  exact (Sm.cons (rd _) k0).le (by simp;omega)
 ·obtain⟨a,b,rfl⟩:=AX hk0
  show Sm _ (aN full g 4 op [a,b] 0++(dJ op::aN full g 4 op [a,b] 1))
  have k0:=hkid 0 (by simp)
  have k1:=hkid 1 (by simp)
  exact (k0.app (Sm.cons (rd _) k1)).le (by simp;omega)
 ·obtain⟨a,rfl⟩:=fK hk0
  show Sm _ (aN full g 5 op [a] 0++(kT 16::(cm not++[kT 20])))
  have k0:=hkid 0 (by simp)
  exact (k0.app (Sm.cons (cW _) ((sd _).app (Sm.one (cW _))))).le (by simp;omega)
 ·obtain⟨a,b,c,rfl⟩:=AY hk0
  show Sm _ (aN full g 6 op [a,b,c] 0++(cm not++(kT 18::(aN full g 6 op [a,b,c] 1++(kT 13::aN full g 6 op [a,b,c] 2)))))
  have k0:=hkid 0 (by simp)
  have k1:=hkid 1 (by simp)
  have k2:=hkid 2 (by simp)
  exact (k0.app ((sd _).app (Sm.cons (cW _) (k1.app (Sm.cons (cW _) k2))))).le (by simp;omega)
 ·obtain⟨a,r,rfl⟩:∃a r,kids=a::r:=by
   cases kids with
   |nil=>simp at hk0
   |cons a r=>exact⟨a,r,rfl⟩
  show Sm _ (aN full g 7 op (a::r) 0++(cm not++(kT 17::jj::(bB (sI full g 7 op (a::r)) r.length++[jy]))))
  have k0:=hkid 0 (by simp)
  have s1:Sm _ (bB (sI full g 7 op (a::r)) r.length):=Sm.seq (b:=fun i=>3+pR (fun x=>150*gn x) r[i]?) fun i hi=>by
   have k1:=hkid (i+1) (by simpa using hi)
   simp only[aC hi,pR]
   exact ((Sm.ite (Sm.one ae) (Sm.nil.le aa:Sm 1 [])).app k1).le (by simp;omega)
  rw[kX r 3 (fun x=>150*gn x),xF] at s1
  have hr8:r.length<=8:=by simp at hk0;omega
  exact (k0.app ((sd _).app (Sm.cons (cW _) (Sm.cons ae (s1.app (Sm.one ae)))))).le (by simp;omega)
 ·obtain⟨a,rfl⟩:=fK hk0
  obtain⟨q,rfl⟩:=fK hs0
  show Sm _ (aN full g 8 op [a] 0++(cm not++(kT 17::jj::(gb g q++[jy]))))
  have k0:=hkid 0 (by simp)
  have s1:=hqs q (by simp)
  exact (k0.app ((sd _).app (Sm.cons (cW _) (Sm.cons ae (s1.app (Sm.one ae)))))).le (by simp;omega)
 ·obtain⟨q,rfl⟩:=fK hs0
  show Sm _ (kT 19::jj::(gb g q++[jy]))
  have s1:=hqs q (by simp)
  exact (Sm.cons (cW _) (Sm.cons ae (s1.app (Sm.one ae)))).le (by simp;omega)
end
theorem EY (full:Bool) (e:Expr):fmE e=true->Rg e->Sm (150*ndE e) (dL full e):=
 jl (F1:=rc) (F2:=xy) (F3:=jz full) (P:=fun e f n t=>f=true->Rg e->Sm (150*n) t) (fun e gf gn g hg hf hr=>CK hf hr hg) e
theorem pS (c:UInt8) (s:ByteArray):(lq c s).size<=2*s.size+2:=by
 have:=lr c s.data.toList
 rw[cQ] at this
 show ((c::(eQ c s.data.toList++[c])).toArray).size<=_
 rw[List.size_toArray,List.length_cons,aA,List.length_singleton];omega
theorem CL {t:Tok} (h:t.text.size<=40):(BM t).size<=300:=by
 have h2:=pS 34 t.text
 have h3:=pS 39 t.text
 unfold BM De
 (repeat' split)<;>first|omega|exact Nat.zero_le _
theorem EZ {l:List Tok} {n:Nat} (h:Sm n l) (i:Nat):(jn l i).length<=400:=by
 unfold jn
 split
 ·rename_i hi
  have:=CL (h.2 _ (aH hi))
  rw[aA,cQ]
  split<;>simp<;>omega
 ·simp
theorem B0 {l:List Tok} {n:Nat} (h:Sm n l) (hn:n<=100000):(qK l l.length).length<=50000000:=by
 suffices H:∀k,(qK l k).length<=400*k from Nat.le_trans (H _) (by have:=h.1;omega)
 intro k
 induction k with
 |zero=>exact Nat.zero_le _
 |succ k ih=>rw[uW,aA];have:=EZ h k;omega
theorem Jn {A B C E:Prop} (k:E) (a:A:=by kernel_rfl) (b:B:=by simp only[maxLen];(try simp only[ll] at *);omega) (c:C:=by (try simp only[ll] at *);omega):A/\(B/\C)/\E:=⟨a,⟨b,c⟩,k⟩
theorem aw {p:Prop} (h:p:=by (try simp only[ll] at *);omega):p:=h
end Go.Proofs.YtoegnikpokgbfaaGreatDoor
