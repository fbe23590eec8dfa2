/-
  The lexers.
  Conditions: none.
-/
import Derived.Test.YteffjmaadkkmeaaGreatDoorQSB
import Derived.Shelf.Strings.Search3
import Derived.Shelf.Strings.Prefix
import Derived.Shelf.Small.Strs
import Derived.Test.YteffjmaadkkmeaaGreatDoorProg
set_option linter.unusedVariables false
set_option linter.unusedSimpArgs false
set_option linter.unusedSectionVars false
set_option maxRecDepth 8000
namespace Go.Proofs.YteffjmaadkkmeaaGreatDoor
open Go Go.Dv
open Go.Vc (D eb ec dK bN)
theorem j2 {s:ByteArray} {l:List UInt8} (hl:l=s.data.toList) (i j:Nat):s.extract i j=bo l i j:=by
 subst hl
 apply ByteArray.ext
 rw[ByteArray.data_extract]
 unfold bo
 apply Array.ext'
 simp [List.extract_eq_take_drop]
theorem oX {l:List UInt8} {i:Nat} (hi:i<l.length) (h:(ge l[i]||ij l[i])=true):bu l (i+1)=bu l i:=by
 rw[ky i,List.getElem?_eq_getElem hi]
 simp only[h,if_true]
theorem vK {l:List UInt8} {i:Nat} (hi:i<l.length) (h:(ge l[i]||ij l[i])=false):bu l i=i:=by
 rw[ky i,List.getElem?_eq_getElem hi]
 simp [h]
theorem sF {l:List UInt8} {i:Nat} (hi:l.length≤i):bu l i=i:=by
 rw[ky i,List.getElem?_eq_none_iff.2 hi]
theorem yy (s:ByteArray) (i:Nat) (hs:s.size≤1048576) (hi:i≤s.size):Cl Tryz.prog 175 [vs s,vi i] [] fun r _=>r=vi (bu s.data.toList i:Nat):=by
 obtain⟨l,hl⟩:∃l,l=s.data.toList:=⟨_,rfl⟩
 have hll:l.length=s.size:=by rw[hl];exact bS s
 rw[←hl]
 refine ab aa false Tryz.func175 rfl (by kernel_rfl) ?_
 simp only[Tryz.f175,tt,seval]
 refine dLoop.intro (fun f' L p=>∃j:Nat,f' 1=vi j∧j≤s.size∧bu l j=bu l i∧L=[]∧p=none) (fun f' _ _=>(s.size-bn (f' 1)).toNat) [] none ⟨SubO.nil _,PoSub.none _,?_⟩ ?_
 ·simp only[tt,seval]
  exact⟨i,rfl,hi,rfl⟩
 ·rintro g L p ⟨j,h1,hj,he,rfl,rfl⟩
  simp only[tt,seval] at h1
  simp only[tt,seval,h1,Int.ofNat_lt]
  by_cases hlt:j<s.size
  ·have hil:j<l.length:=by omega
   simp only[tt,seval,h1,hlt,decide_true]
   rw[dM hl hil]
   simp only[tt,seval,h1]
   refine fun _=>?_
   refine cZ (pV l[j].toNat) (by decide) ?_ ?_<;>simp only[tt,seval,h1]
   cases hL:mo l[j].toNat with
   |true=>
    simp only[tt,seval,h1,hL]
    rw[ak (n:=(j:Int)+1) (by omega) (by omega)]
    exact⟨[],none,SubO.nil _,PoSub.none _,⟨j+1,rfl,by omega,by rw[oX hil (by simp [ge,hL]),he],rfl,rfl⟩,by simp only[bn];omega⟩
   |false=>
    simp only[tt,seval,h1,hL]
    rw[dM hl hil]
    simp only[tt,seval,h1]
    refine cZ (pU l[j].toNat) (by decide) ?_ ?_<;>simp only[tt,seval,h1]
    cases hF:decide ((48:Int)≤(l[j].toNat:Int)∧(l[j].toNat:Int)≤57) with
    |true=>
     have hF:=of_decide_eq_true hF
     rw[ak (n:=(j:Int)+1) (by omega) (by omega)]
     refine And.intro (fun _=>?_) (fun h=>absurd hF h)
     exact⟨[],none,SubO.nil _,PoSub.none _,⟨j+1,rfl,by omega,by rw[oX hil (by simp only[ij,decide_eq_true hF,Bool.or_true]),he],rfl,rfl⟩,by simp only[bn];omega⟩
    |false=>
     have hF':=of_decide_eq_false hF
     refine And.intro (fun h=>absurd h hF') (fun _=>?_)
     refine⟨_,_,eX ?_,ac rfl⟩
     rw[←he,vK hil (by simp only[ge,ij,hL,hF,Bool.or_false])]
  ·simp only[tt,seval,h1,hlt,decide_false]
   refine fun _=>⟨_,_,eX ?_,ac rfl⟩
   rw[←he,sF (by omega)]
def Bv:Option (List UInt8×Nat)→S
 |some (x,e)=>.tu [([.v (.string ⟨x.toArray⟩)],true),([.v (.int .i64 (e:Nat))],true)]
 |none=>.tu [([.v (.string ⟨#[]⟩)],true),([.v (.int .i64 (-1))],true)]
theorem qQ (s:ByteArray) (a:Nat) (q:UInt8) (hs:s.size≤1048576) (hq:s.data.toList[a]?=some q):Cl Tryz.prog 179 [vs s,vi a] [] fun r _=>r=Bv (eu s.data.toList q (s.data.toList.length+1) (a+1) []):=by
 obtain⟨l,hl⟩:∃l,l=s.data.toList:=⟨_,rfl⟩
 have hll:l.length=s.size:=by rw[hl];exact bS s
 rw[←hl] at hq ⊢
 obtain⟨ha,hqa⟩:=List.getElem?_eq_some_iff.1 hq
 refine ab aa false Tryz.func179 rfl (by kernel_rfl) ?_
 simp only[Tryz.f179,tt,seval]
 rw[dM hl ha,hqa]
 simp only[tt,seval]
 rw[ak (n:=(a:Int)+1) (by omega) (by omega)]
 refine dLoop.gh [.ren 12 52] ⟨by decide,by decide,?_⟩
 refine dLoop0.introR (fun f' L p=>∃(i n:Nat) (bs:List UInt8),f' 8=vi i∧f' 7 = .c (.s 52 bs.length)∧i≤s.size∧bs.length≤i∧eu l q n i bs=eu l q (l.length+1) (a+1) []∧l.length+1≤n+i∧L=[(52,.arr 5 bs.length (bU bs) none)]∧p=none) (fun f' _ _=>(s.size-bn (f' 8)).toNat) [(52,.arr 5 0 (bU []) none)] none ⟨SubO.cons rfl (SubO.nil _),PoSub.none _,?_⟩ ?_
 ·simp only[tt,seval]
  exact⟨a+1,l.length+1,[],rfl,rfl,by omega,by simp,rfl,by omega,rfl⟩
 ·rintro g L p ⟨i,n,bs,h8,h7,hi,hbl,he,hn,rfl,rfl⟩
  simp only[tt,seval] at h8 h7
  simp only[tt,seval,h8,h7,Int.ofNat_lt]
  cases n with
  |zero=>exact absurd hn (by omega)
  |succ n=>
  rw[eu] at he
  refine fun _=>And.intro (fun hlt=>?_) (fun hge=>?_)
  ·have hil:i<l.length:=by omega
   rw[List.getElem?_eq_getElem hil] at he
   simp only at he
   rw[dM hl hil]
   simp only[tt,seval,h8,h7]
   refine And.intro (fun hne=>?_) (fun heq=>?_)
   ·have hc:¬l[i]=q:=fun e=>by rw[e] at hne;simp at hne
    rw[if_neg hc] at he
    rw[dM hl hil]
    simp only[tt,seval,h8,h7]
    refine⟨by kernel_rfl,⟨by simp only[maxLen];omega,by omega⟩,?_⟩
    rw[jd,ak (n:=(i:Int)+1) (by omega) (by omega)]
    refine⟨[.ren 31 52],by decide,by decide,?_⟩
    simp only[tt,seval,h8,h7]
    refine⟨[(52,.arr 5 (bs++[l[i]]).length (bU (bs++[l[i]])) none)],none,SubO.cons (by simp [Go.Dv.look]) (SubO.nil _),PoSub.none _,⟨i+1,n,bs++[l[i]],by simp only[tt,seval,h8,h7];rfl,by simp only[tt,seval,h8,h7,List.length_append,List.length_cons,List.length_nil],by omega,by simp;omega,he,by omega,rfl,rfl⟩,by simp only[tt,seval,h8,h7,bn];omega⟩
   ·have hc:l[i]=q:=UInt8.toNat_inj.1 (by simp at heq;omega)
    rw[if_pos hc] at he
    have ew:IntKind.i64.wrap ((i:Int)+1)=((i+1:Nat):Int):=by rw[ak (by omega) (by omega)];omega
    have ex:bs.length≤9223372036854775807:=by omega
    rw[ew]
    by_cases hi1:i+1<l.length
    ·have g1:decide ((s.size:Int)≤((i+1:Nat):Int))=false:=decide_eq_false (by omega)
     rw[List.getElem?_eq_getElem hi1] at he
     simp only[tt,seval,h8,h7,g1,ew]
     refine fun _=>?_
     rw[dM hl hi1]
     simp only[tt,seval,h8,h7]
     refine And.intro (fun hne=>?_) (fun heq=>?_)
     ·have hd:¬l[i+1]=q:=fun e=>by rw[e] at hne;simp at hne
      rw[if_neg (by simpa using hd)] at he
      refine⟨by kernel_rfl,by simp only[maxLen];omega,bs,rfl,rfl,?_⟩
      simp only[tt,seval,h8,h7,ew]
      rw[←he]
      exact⟨_,_,rfl,ac rfl⟩
     ·have hd:l[i+1]=q:=UInt8.toNat_inj.1 (by simp at heq;omega)
      rw[if_pos (by rw[hd])] at he
      refine⟨by kernel_rfl,⟨by simp only[maxLen];omega,by omega⟩,?_⟩
      rw[jd,ew,ak (n:=((i+1:Nat):Int)+1) (by omega) (by omega)]
      refine⟨[],?_⟩
      try simp only[tt,seval,h8,h7]
      refine⟨[(52,.arr 5 (bs++[q]).length (bU (bs++[q])) none)],none,SubO.cons (by simp [Go.Dv.look]) (SubO.nil _),PoSub.none _,⟨i+2,n,bs++[q],by simp only[tt,seval,h8,h7];exact eX (by omega),by simp only[tt,seval,h8,h7,List.length_append,List.length_cons,List.length_nil],by omega,by simp;omega,he,by omega,rfl,rfl⟩,by simp only[tt,seval,h8,h7,bn];omega⟩
    ·have g1:decide ((s.size:Int)≤((i+1:Nat):Int))=true:=decide_eq_true (by omega)
     rw[List.getElem?_eq_none_iff.2 (by omega),if_neg (by simp)] at he
     simp only[tt,seval,h8,h7,g1,ew]
     refine fun _=>⟨by kernel_rfl,by simp only[maxLen];omega,bs,rfl,rfl,?_⟩
     simp only[tt,seval,h8,h7,ew]
     rw[←he]
     exact⟨_,_,rfl,ac rfl⟩
  ·have:i=s.size:=by omega
   subst this
   rw[List.getElem?_eq_none_iff.2 (by omega)] at he
   simp only at he
   rw[←he]
   exact⟨_,_,rfl,ac rfl⟩
theorem lJ (b:UInt8):uK b=true↔((b.toNat:Int)=32∨(b.toNat:Int)=9∨(b.toNat:Int)=10∨(b.toNat:Int)=13):=by
 unfold uK
 simp only[Bool.or_eq_true,beq_iff_eq,←UInt8.toNat_inj]
 have e1:(32:UInt8).toNat=32:=rfl
 have e2:(9:UInt8).toNat=9:=rfl
 have e3:(10:UInt8).toNat=10:=rfl
 have e4:(13:UInt8).toNat=13:=rfl
 rw[e1,e2,e3,e4]
 omega
theorem zM {l:List UInt8} {i:Nat} {a b:UInt8} (hi:i≤l.length):bo l i (min l.length (i+2))=⟨#[a,b]⟩↔l[i]?=some a∧l[i+1]?=some b:=by
 have h0:l[i]?=(l.drop i)[0]?:=by simp [List.getElem?_drop]
 have h1:l[i+1]?=(l.drop i)[1]?:=by simp [List.getElem?_drop]
 have ht:(l.drop i).take (min l.length (i+2)-i)=(l.drop i).take 2:=List.take_eq_take_iff.2 (by rw[List.length_drop];omega)
 unfold bo
 rw[ht,h0,h1]
 generalize l.drop i=m
 match m with
 | []=>simp
 | [x]=>simp
 |x::y::r=>simp
theorem yz (a b:Int):Cl Tryz.prog 173 [vi a,vi b] [] fun r _=>r=vi (if a<b then a else b):=by
 refine ab aa false Tryz.func173 rfl (by kernel_rfl) ?_
 simp only[Tryz.f173,tt,seval]
 refine And.intro (fun h=>?_) (fun h=>?_)
 ·exact⟨_,_,eX (by rw[if_pos h]),ac rfl⟩
 ·exact⟨_,_,eX (by rw[if_neg h]),ac rfl⟩
def DX:Option (Nat×Bool)→Int
 |some (p,true)=>p
 |some (p,false)=>-(p:Int)-1
 |none=>0
set_option maxHeartbeats 2000000 in
theorem Bw (s:ByteArray) (a:Nat) (hs:s.size≤1048576) (ha:a≤s.size):Cl Tryz.prog 118 [vs s,vi a] [] fun r _=>r=vi (DX (gf s.data.toList (s.data.toList.length+1) a)):=by
 obtain⟨l,hl⟩:∃l,l=s.data.toList:=⟨_,rfl⟩
 have hll:l.length=s.size:=by rw[hl];exact bS s
 rw[←hl]
 refine ab aa false Tryz.func118 rfl (by kernel_rfl) ?_
 simp only[Tryz.f118,tt,seval]
 refine dLoop.intro (fun f' L p=>∃(j n:Nat),f' 1=vi j∧j≤s.size∧gf l n j=gf l (l.length+1) a∧l.length+1≤n+j∧L=[]∧p=none) (fun f' _ _=>(s.size-bn (f' 1)).toNat) [] none ⟨SubO.nil _,PoSub.none _,?_⟩ ?_
 ·simp only[tt,seval]
  exact⟨a,l.length+1,rfl,ha,rfl,by omega⟩
 ·rintro g L p ⟨j,n,h1,hj,he,hn,rfl,rfl⟩
  simp only[tt,seval] at h1
  cases n with
  |zero=>exact absurd hn (by omega)
  |succ n=>
  rw[gf] at he
  simp only[tt,seval,h1,Int.ofNat_lt]
  refine fun _=>And.intro (fun hlt=>?_) (fun hge=>?_)
  ·have hil:j<l.length:=by omega
   rw[List.getElem?_eq_getElem hil] at he
   simp only at he
   rw[ak (n:=(j:Int)+2) (by omega) (by omega)]
   have em:(if (s.size:Int)<(j:Int)+2 then (s.size:Int) else (j:Int)+2)=((min l.length (j+2):Nat):Int):=by split<;>omega
   refine fun _=>?_
   refine cZ (yz s.size (j+2)) (by decide) ?_ ?_<;>simp only[tt,seval,h1]
   rw[em,ic (by kernel_rfl) (show s.size≤9223372036854775807 by omega) (by omega) (by omega) (by omega),Int.toNat_natCast,Int.toNat_natCast,j2 hl]
   simp only[tt,seval,h1]
   cases h32:decide ((l[j].toNat:Int)=32) with
   |true=>
    rw[dM hl hil]
    simp only[tt,seval,h1,h32]
    rw[ak (n:=(j:Int)+1) (by omega) (by omega)]
    rw[if_pos ((lJ _).2 (by have:=of_decide_eq_true h32;omega))] at he
    exact⟨[],none,SubO.nil _,PoSub.none _,⟨j+1,n,rfl,by omega,he,by omega,rfl,rfl⟩,by simp only[bn];omega⟩
   |false=>
    rw[dM hl hil]
    simp only[tt,seval,h1,h32]
    cases h9:decide ((l[j].toNat:Int)=9) with
    |true=>
     rw[dM hl hil]
     simp only[tt,seval,h1,h32,h9]
     rw[ak (n:=(j:Int)+1) (by omega) (by omega)]
     rw[if_pos ((lJ _).2 (by have:=of_decide_eq_true h9;omega))] at he
     exact⟨[],none,SubO.nil _,PoSub.none _,⟨j+1,n,rfl,by omega,he,by omega,rfl,rfl⟩,by simp only[bn];omega⟩
    |false=>
     rw[dM hl hil]
     simp only[tt,seval,h1,h32,h9]
     cases h10:decide ((l[j].toNat:Int)=10) with
     |true=>
      rw[dM hl hil]
      simp only[tt,seval,h1,h32,h9,h10]
      rw[ak (n:=(j:Int)+1) (by omega) (by omega)]
      rw[if_pos ((lJ _).2 (by have:=of_decide_eq_true h10;omega))] at he
      exact⟨[],none,SubO.nil _,PoSub.none _,⟨j+1,n,rfl,by omega,he,by omega,rfl,rfl⟩,by simp only[bn];omega⟩
     |false=>
      rw[dM hl hil]
      simp only[tt,seval,h1,h32,h9,h10]
      cases h13:decide ((l[j].toNat:Int)=13) with
      |true=>
       rw[dM hl hil]
       simp only[tt,seval,h1,h32,h9,h10,h13]
       rw[ak (n:=(j:Int)+1) (by omega) (by omega)]
       rw[if_pos ((lJ _).2 (by have:=of_decide_eq_true h13;omega))] at he
       exact⟨[],none,SubO.nil _,PoSub.none _,⟨j+1,n,rfl,by omega,he,by omega,rfl,rfl⟩,by simp only[bn];omega⟩
      |false=>
       rw[dM hl hil]
       simp only[tt,seval,h1,h32,h9,h10,h13]
       have hw:¬uK l[j]=true:=fun h=>by
        have e1:=of_decide_eq_false h32
        have e2:=of_decide_eq_false h9
        have e3:=of_decide_eq_false h10
        have e4:=of_decide_eq_false h13
        have:=(lJ _).1 h
        omega
       rw[if_neg hw] at he
       by_cases hd:l[j]=45∧l[j+1]?=some 45
       ·have e2:(bo l j (min l.length (j+2))=⟨#[45,45]⟩)=True:=eq_true ((zM (by omega)).2 ⟨by rw[List.getElem?_eq_getElem hil,hd.1],hd.2⟩)
        rw[if_pos hd] at he
        have hne:¬l[j]=10:=by rw[hd.1];decide
        have eol:=fN (B:=l) j
        rw[List.getElem?_eq_getElem hil] at eol
        simp only[hne,if_false] at eol
        have gol:=nA (B:=l) (j+1)
        simp only[tt,seval,h1,e2,true_implies,false_implies,not_true_eq_false,not_false_eq_true,and_true,true_and]
        refine dLoop.intro (fun f' L p=>∃k:Nat,f' 1=vi k∧k≤s.size∧dX l k=dX l j∧L=[]∧p=none) (fun f' _ _=>(s.size-bn (f' 1)).toNat) [] none ⟨SubO.nil _,PoSub.none _,?_⟩ ?_
        ·simp only[tt,seval,h1]
         exact⟨j,rfl,hj,rfl⟩
        ·rintro g2 L p ⟨k,h1',hk,hke,rfl,rfl⟩
         simp only[tt,seval] at h1'
         simp only[tt,seval,h1',Int.ofNat_lt]
         have st:=fN (B:=l) k
         by_cases hkl:k<s.size
         ·have hkl':k<l.length:=by omega
          rw[List.getElem?_eq_getElem hkl'] at st
          simp only at st
          simp only[tt,seval,h1',hkl,decide_true]
          rw[dM hl hkl']
          simp only[tt,seval,h1']
          refine fun _=>And.intro (fun h=>?_) (fun h=>?_)
          ·have hb:¬l[k]=10:=fun e=>by rw[e] at h;simp at h
           rw[if_neg hb] at st
           rw[ak (n:=(k:Int)+1) (by omega) (by omega)]
           exact⟨[],none,SubO.nil _,PoSub.none _,⟨k+1,rfl,by omega,by rw[←st,hke],rfl,rfl⟩,by simp only[bn];omega⟩
          ·have hb:l[k]=10:=UInt8.toNat_inj.1 (by simp at h;show l[k].toNat=10;omega)
           rw[if_pos hb] at st
           exact⟨[],none,SubO.nil _,PoSub.none _,⟨k,n,rfl,by omega,by rw[←st,hke];exact he,by omega,rfl,rfl⟩,by simp only[bn];omega⟩
         ·simp only[tt,seval,h1',hkl,decide_false]
          rw[List.getElem?_eq_none_iff.2 (by omega)] at st
          simp only at st
          refine fun _=>?_
          exact⟨[],none,SubO.nil _,PoSub.none _,⟨k,n,rfl,by omega,by rw[←st,hke];exact he,by omega,rfl,rfl⟩,by simp only[bn];omega⟩
       ·have e2:(bo l j (min l.length (j+2))=⟨#[45,45]⟩)=False:=eq_false fun h=>hd (by
         have:=(zM (by omega)).1 h
         rw[List.getElem?_eq_getElem hil] at this
         exact⟨Option.some.inj this.1,this.2⟩)
        rw[if_neg hd] at he
        simp only[tt,seval,h1,e2,true_implies,false_implies,not_true_eq_false,not_false_eq_true,and_true,true_and]
        by_cases hc:l[j]=47∧l[j+1]?=some 42
        ·have e3:(bo l j (min l.length (j+2))=⟨#[47,42]⟩)=True:=eq_true ((zM (by omega)).2 ⟨by rw[List.getElem?_eq_getElem hil,hc.1],hc.2⟩)
         rw[if_pos hc] at he
         have hj2:j+1<l.length:=(List.getElem?_eq_some_iff.1 hc.2).1
         simp only[tt,seval,h1,e3,true_implies,false_implies,not_true_eq_false,not_false_eq_true,and_true,true_and]
         rw[ak (n:=(j:Int)+2) (by omega) (by omega)]
         refine dLoop.intro (fun f' L p=>∃(k m:Nat),f' 6=vi k∧j+2≤k∧k≤s.size∧mC l m k=mC l (l.length+1) (j+2)∧l.length+1≤m+k∧L=[]∧p=none) (fun f' _ _=>(s.size-bn (f' 6)).toNat) [] none ⟨SubO.nil _,PoSub.none _,?_⟩ ?_
         ·simp only[tt,seval,h1]
          exact⟨j+2,l.length+1,rfl,by omega,by omega,rfl,by omega⟩
         ·rintro g2 L p ⟨k,m,h6,hjk,hk,hke,hm,rfl,rfl⟩
          simp only[tt,seval] at h6
          cases m with
          |zero=>exact absurd hm (by omega)
          |succ m=>
          rw[mC] at hke
          simp only[tt,seval,h6,Int.ofNat_lt]
          refine fun _=>?_
          by_cases hkl:k<s.size
          ·have hkl':k<l.length:=by omega
           simp only[tt,seval,h6,hkl,decide_true]
           refine fun _=>?_
           rw[ak (n:=(k:Int)+2) (by omega) (by omega)]
           have em:(if (s.size:Int)<(k:Int)+2 then (s.size:Int) else (k:Int)+2)=((min l.length (k+2):Nat):Int):=by split<;>omega
           refine cZ (yz s.size (k+2)) (by decide) ?_ ?_<;>simp only[tt,seval,h6]
           rw[em,ic (by kernel_rfl) (show s.size≤9223372036854775807 by omega) (by omega) (by omega) (by omega),Int.toNat_natCast,Int.toNat_natCast,j2 hl]
           simp only[tt,seval,h6]
           by_cases hq:l[k]?=some 42∧l[k+1]?=some 47
           ·have e4:decide (bo l k (min l.length (k+2))=⟨#[42,47]⟩)=true:=decide_eq_true ((zM (by omega)).2 hq)
            rw[if_pos hq] at hke
            rw[←hke] at he
            simp only at he
            have hk2:k+1<l.length:=(List.getElem?_eq_some_iff.1 hq.2).1
            have g1:decide ((s.size:Int)≤(k:Int))=false:=decide_eq_false (by omega)
            have g1':((s.size:Int)≤(k:Int))=False:=eq_false (by omega)
            simp only[tt,seval,h6,e4,g1,g1',Bool.not_true,Bool.false_eq_true]
            refine fun _=>?_
            rw[ak (n:=(k:Int)+2) (by omega) (by omega)]
            exact⟨[],none,SubO.nil _,PoSub.none _,⟨k+2,n,rfl,by omega,he,by omega,rfl,rfl⟩,by simp only[bn];omega⟩
           ·have e4:decide (bo l k (min l.length (k+2))=⟨#[42,47]⟩)=false:=decide_eq_false fun h=>hq ((zM (by omega)).1 h)
            rw[if_neg hq,if_pos hkl'] at hke
            simp only[tt,seval,h6,e4,Bool.not_false]
            rw[ak (n:=(k:Int)+1) (by omega) (by omega)]
            exact⟨[],none,SubO.nil _,PoSub.none _,⟨k+1,m,rfl,by omega,by omega,hke,by omega,rfl,rfl⟩,by simp only[bn];omega⟩
          ·have hks:k=s.size:=by omega
           have hn1:l[k]?=none:=List.getElem?_eq_none_iff.2 (by omega)
           rw[hn1,if_neg (by simp),if_neg (by omega)] at hke
           rw[←hke] at he
           simp only at he
           rw[←he]
           have g1:decide ((s.size:Int)≤(k:Int))=true:=decide_eq_true (by omega)
           have g1':((s.size:Int)≤(k:Int))=True:=eq_true (by omega)
           simp only[tt,seval,h1,h6,hkl,decide_false,g1,g1']
           refine fun _=>⟨_,_,eX ?_,ac rfl⟩
           rw[ak (n:=-(j:Int)) (by omega) (by omega),ak (by omega) (by omega)]
           rfl
        ·have e3:(bo l j (min l.length (j+2))=⟨#[47,42]⟩)=False:=eq_false fun h=>hc (by
          have:=(zM (by omega)).1 h
          rw[List.getElem?_eq_getElem hil] at this
          exact⟨Option.some.inj this.1,this.2⟩)
         rw[if_neg hc] at he
         simp only[tt,seval,h1,e3,true_implies,false_implies,not_true_eq_false,not_false_eq_true,and_true,true_and]
         rw[←he]
         exact⟨_,_,rfl,ac rfl⟩
  ·have:j=s.size:=by omega
   subst this
   rw[List.getElem?_eq_none_iff.2 (by omega)] at he
   simp only at he
   rw[←he]
   exact⟨_,_,rfl,ac rfl⟩
theorem j3 (l:List UInt8) (i j:Nat):(bo l i j).size=min (j-i) (l.length-i):=by
 unfold bo
 show ((l.drop i).take (j-i)).toArray.size=_
 simp
def Bx:Option (Tok×Nat)→Int
 |some (_,e)=>e
 |none=>-1
theorem dZ {l:List UInt8} {a:Nat} {b:UInt8} {t:Tok} {e:Nat} (hr:dq l a b=some (t,e)) (ho:cj t=true):bB l a b=some (t,e):=by
 unfold bB
 rw[hr]
 simp only[ho,if_true]
theorem eT {l:List UInt8} {a:Nat} {b:UInt8} {t:Tok} {e:Nat} (hr:dq l a b=some (t,e)) (ho:cj t=false):bB l a b=none:=by
 unfold bB
 rw[hr]
 simp only[ho,Bool.false_eq_true,if_false]
theorem tU (l:List UInt8) (a:Nat):dq l a 34=(eu l 34 (l.length+1) (a+1) []).map fun x=>(⟨2,⟨x.1.toArray⟩,a⟩,x.2):=by
 unfold dq
 simp only
 rw[if_neg (by decide),if_neg (by decide),if_pos trivial]
theorem tV (l:List UInt8) (a:Nat):dq l a 39=(eu l 39 (l.length+1) (a+1) []).map fun x=>(⟨4,⟨x.1.toArray⟩,a⟩,x.2):=by
 unfold dq
 simp only
 rw[if_neg (by decide),if_neg (by decide),if_neg (by decide),if_pos trivial]
set_option maxHeartbeats 4000000 in
theorem CX (s:ByteArray) (a:Nat) (b:UInt8) (hs:s.size≤1048576) (hb:s.data.toList[a]?=some b):Cl Tryz.prog 119 [vs s,vi a] [] fun r _=>∃t:Tok,r = .tu [(an t.row,false),([.v (.int .i64 (Bx (bB s.data.toList a b)))],true)]∧∀t' e,bB s.data.toList a b=some (t',e)→t=t':=by
 obtain⟨l,hl⟩:∃l,l=s.data.toList:=⟨_,rfl⟩
 have hll:l.length=s.size:=by rw[hl];exact bS s
 rw[←hl] at hb ⊢
 obtain⟨ha,hba⟩:=List.getElem?_eq_some_iff.1 hb
 refine ab aa false Tryz.func119 rfl (by kernel_rfl) ?_
 simp only[Tryz.f119,tt,seval]
 rw[ak (n:=(a:Int)+1) (by omega) (by omega),dM hl ha,hba]
 simp only[tt,seval]
 refine cZ (pV b.toNat) (by decide) ?_ ?_<;>simp only[tt,seval]
 cases hL:mo b.toNat with
 |true=>
  simp only[tt,seval,hL]
  have hrl:=nB (B:=l) a
  have hrh:=nC (B:=l) (i:=a) (by omega)
  have crun:=yy s a hs (by omega)
  rw[←hl] at crun
  refine cZ (crun) (by decide) ?_ ?_<;>simp only[tt,seval,hL]
  rw[ic (by kernel_rfl) (show s.size≤9223372036854775807 by omega) (by omega) (by omega) (by omega),Int.toNat_natCast,Int.toNat_natCast,j2 hl]
  simp only[tt,seval,hL]
  have hsz:(bo l a (bu l a)).size≤1048576:=by rw[j3];omega
  generalize hx:bo l a (bu l a)=x at *
  refine cZ (xI x hsz) (by decide) ?_ ?_<;>simp only[tt,seval,hL]
  have hk:=wP x
  have hraw:dq l a b=some (if nr x=0 then ⟨2,x,a⟩ else ⟨1,cM x,a⟩,bu l a):=by
   unfold dq
   simp only[ge,hL,if_true,hx]
  refine And.intro (fun hg=>?_) (fun hg=>?_)
  ·rw[if_neg (by omega)] at hraw
   refine cZ (wK x hsz) (by decide) ?_ ?_<;>simp only[tt,seval]
   have hno:decide (((bu l a:Nat):Int)<0)=false:=decide_eq_false (by omega)
   try simp only[tt,seval,hno]
   refine cZ (fm (Tok.mk 1 (cM x) a) (by show (cM x).size≤_;rw[kq];exact hsz)) (by decide) ?_ ?_<;>simp only[tt,seval,Tok.row,hno]
   cases ho:cj (Tok.mk 1 (cM x) a) with
   |true=>
    have e1:bB l a b=some ((Tok.mk 1 (cM x) a),bu l a):=dZ hraw ho
    rw[e1]
    simp only[tt,seval,ho,hno,Bool.not_true,Bool.false_eq_true]
    refine⟨.tu [(an (Tok.mk 1 (cM x) a).row,false),([.v (.int .i64 ((bu l a:Nat):Int))],true)],[],⟨(Tok.mk 1 (cM x) a),rfl,fun t' e' h=>by cases h;rfl⟩,aj ?_⟩
    simp only[tt,seval,Tok.row]
   |false=>
    have e1:bB l a b=none:=eT hraw ho
    rw[e1]
    simp only[tt,seval,ho,hno,Bool.not_false]
    refine⟨.tu [(an (Tok.mk 1 (cM x) a).row,false),([.v (.int .i64 (-1))],true)],[],⟨(Tok.mk 1 (cM x) a),by first|exact⟨rfl,fun t' e' h=>by cases h⟩|rfl⟩,aj ?_⟩
    simp only[tt,seval,Tok.row]
  ·rw[if_pos (by omega)] at hraw
   have hno:decide (((bu l a:Nat):Int)<0)=false:=decide_eq_false (by omega)
   try simp only[tt,seval,hno]
   refine cZ (fm (Tok.mk 2 x a) hsz) (by decide) ?_ ?_<;>simp only[tt,seval,Tok.row,hno]
   cases ho:cj (Tok.mk 2 x a) with
   |true=>
    have e1:bB l a b=some ((Tok.mk 2 x a),bu l a):=dZ hraw ho
    rw[e1]
    simp only[tt,seval,ho,hno,Bool.not_true,Bool.false_eq_true]
    refine⟨.tu [(an (Tok.mk 2 x a).row,false),([.v (.int .i64 ((bu l a:Nat):Int))],true)],[],⟨(Tok.mk 2 x a),rfl,fun t' e' h=>by cases h;rfl⟩,aj ?_⟩
    simp only[tt,seval,Tok.row]
   |false=>
    have e1:bB l a b=none:=eT hraw ho
    rw[e1]
    simp only[tt,seval,ho,hno,Bool.not_false]
    refine⟨.tu [(an (Tok.mk 2 x a).row,false),([.v (.int .i64 (-1))],true)],[],⟨(Tok.mk 2 x a),by first|exact⟨rfl,fun t' e' h=>by cases h⟩|rfl⟩,aj ?_⟩
    simp only[tt,seval,Tok.row]
 |false=>
  simp only[tt,seval,hL]
  rw[dM hl ha,hba]
  simp only[tt,seval]
  refine cZ (pU b.toNat) (by decide) ?_ ?_<;>simp only[tt,seval]
  cases hF:decide ((48:Int)≤(b.toNat:Int)∧(b.toNat:Int)≤57) with
  |true=>
   have eF:((48:Int)≤(b.toNat:Int)∧(b.toNat:Int)≤57)=True:=eq_true (of_decide_eq_true hF)
   simp only[tt,seval,eF,true_implies,not_true_eq_false,false_implies,and_true]
   have hrl:=nB (B:=l) a
   have hrh:=nC (B:=l) (i:=a) (by omega)
   have crun:=yy s a hs (by omega)
   rw[←hl] at crun
   refine cZ (crun) (by decide) ?_ ?_<;>simp only[tt,seval,hF]
   rw[ic (by kernel_rfl) (show s.size≤9223372036854775807 by omega) (by omega) (by omega) (by omega),Int.toNat_natCast,Int.toNat_natCast,j2 hl]
   simp only[tt,seval,hF]
   have hsz:(bo l a (bu l a)).size≤1048576:=by rw[j3];omega
   generalize hx:bo l a (bu l a)=x at *
   have hraw:dq l a b=some (⟨3,x,a⟩,bu l a):=by
    unfold dq
    simp only[ge,ij,hL,hF,if_true,Bool.false_eq_true,if_false,hx]
   have hno:decide (((bu l a:Nat):Int)<0)=false:=decide_eq_false (by omega)
   try simp only[tt,seval,hno]
   refine cZ (fm (Tok.mk 3 x a) hsz) (by decide) ?_ ?_<;>simp only[tt,seval,Tok.row,hno]
   cases ho:cj (Tok.mk 3 x a) with
   |true=>
    have e1:bB l a b=some ((Tok.mk 3 x a),bu l a):=dZ hraw ho
    rw[e1]
    simp only[tt,seval,ho,hno,Bool.not_true,Bool.false_eq_true]
    refine⟨.tu [(an (Tok.mk 3 x a).row,false),([.v (.int .i64 ((bu l a:Nat):Int))],true)],[],⟨(Tok.mk 3 x a),rfl,fun t' e' h=>by cases h;rfl⟩,aj ?_⟩
    simp only[tt,seval,Tok.row]
   |false=>
    have e1:bB l a b=none:=eT hraw ho
    rw[e1]
    simp only[tt,seval,ho,hno,Bool.not_false]
    refine⟨.tu [(an (Tok.mk 3 x a).row,false),([.v (.int .i64 (-1))],true)],[],⟨(Tok.mk 3 x a),by first|exact⟨rfl,fun t' e' h=>by cases h⟩|rfl⟩,aj ?_⟩
    simp only[tt,seval,Tok.row]
  |false=>
   have eF:((48:Int)≤(b.toNat:Int)∧(b.toNat:Int)≤57)=False:=eq_false (of_decide_eq_false hF)
   simp only[tt,seval,eF,false_implies,not_false_eq_true,true_implies,true_and]
   rw[dM hl ha,hba]
   simp only[tt,seval]
   by_cases hb34:b=34
   ·have e34:((b.toNat:Int)=34)=True:=eq_true (by rw[hb34];rfl)
    simp only[tt,seval,e34,true_implies,not_true_eq_false,false_implies,and_true]
    have cq:=qQ s a b hs (by rw[←hl];exact hb)
    rw[←hl] at cq
    refine cZ (cq) (by decide) ?_ ?_<;>simp only[tt,seval,e34]
    have hqs:=fun x e=>eH (B:=l) (q:=b) (n:=l.length+1) (i:=a+1) (l:=[]) (x:=x) (e:=e)
    cases hq:eu l b (l.length+1) (a+1) [] with
    |none=>
     have hr:dq l a b=none:=by rw[hb34] at hq ⊢;rw[tU,hq];rfl
     have e1:bB l a b=none:=by unfold bB;rw[hr]
     rw[e1]
     simp only[tt,seval,Bv,e34]
     refine⟨.tu [(an (Tok.mk 2 ⟨#[]⟩ a).row,false),([.v (.int .i64 (-1))],true)],[],⟨Tok.mk 2 ⟨#[]⟩ a,by first|exact⟨rfl,fun t' e' h=>by cases h⟩|rfl⟩,aj ?_⟩
     simp only[tt,seval,Tok.row]
    |some y=>
     obtain⟨x,e⟩:=y
     have hr:dq l a b=some (⟨2,⟨x.toArray⟩,a⟩,e):=by rw[hb34] at hq ⊢;rw[tU,hq];rfl
     have hqs:=hqs x e hq
     simp only[tt,seval,Bv,e34]
     have hno:decide (((e:Nat):Int)<0)=false:=decide_eq_false (by omega)
     try simp only[tt,seval,hno]
     refine cZ (fm (Tok.mk 2 ⟨x.toArray⟩ a) (by show x.length≤_;simp only[List.length_nil] at hqs;omega)) (by decide) ?_ ?_<;>simp only[tt,seval,Tok.row,hno]
     cases ho:cj (Tok.mk 2 ⟨x.toArray⟩ a) with
     |true=>
      have e1:bB l a b=some ((Tok.mk 2 ⟨x.toArray⟩ a),e):=dZ hr ho
      rw[e1]
      simp only[tt,seval,ho,hno,Bool.not_true,Bool.false_eq_true]
      refine⟨.tu [(an (Tok.mk 2 ⟨x.toArray⟩ a).row,false),([.v (.int .i64 ((e:Nat):Int))],true)],[],⟨(Tok.mk 2 ⟨x.toArray⟩ a),rfl,fun t' e' h=>by cases h;rfl⟩,aj ?_⟩
      simp only[tt,seval,Tok.row]
     |false=>
      have e1:bB l a b=none:=eT hr ho
      rw[e1]
      simp only[tt,seval,ho,hno,Bool.not_false]
      refine⟨.tu [(an (Tok.mk 2 ⟨x.toArray⟩ a).row,false),([.v (.int .i64 (-1))],true)],[],⟨(Tok.mk 2 ⟨x.toArray⟩ a),by first|exact⟨rfl,fun t' e' h=>by cases h⟩|rfl⟩,aj ?_⟩
      simp only[tt,seval,Tok.row]
   ·have h34:¬b=34:=hb34
    have e34:((b.toNat:Int)=34)=False:=eq_false fun h=>hb34 (UInt8.toNat_inj.1 (by show b.toNat=34;omega))
    simp only[tt,seval,e34,false_implies,not_false_eq_true,true_implies,true_and]
    rw[dM hl ha,hba]
    simp only[tt,seval]
    by_cases hb39:b=39
    ·have e39:((b.toNat:Int)=39)=True:=eq_true (by rw[hb39];rfl)
     simp only[tt,seval,e39,true_implies,not_true_eq_false,false_implies,and_true]
     have cq:=qQ s a b hs (by rw[←hl];exact hb)
     rw[←hl] at cq
     refine cZ (cq) (by decide) ?_ ?_<;>simp only[tt,seval,e39]
     have hqs:=fun x e=>eH (B:=l) (q:=b) (n:=l.length+1) (i:=a+1) (l:=[]) (x:=x) (e:=e)
     cases hq:eu l b (l.length+1) (a+1) [] with
     |none=>
      have hr:dq l a b=none:=by rw[hb39] at hq ⊢;rw[tV,hq];rfl
      have e1:bB l a b=none:=by unfold bB;rw[hr]
      rw[e1]
      simp only[tt,seval,Bv,e39]
      refine⟨.tu [(an (Tok.mk 4 ⟨#[]⟩ a).row,false),([.v (.int .i64 (-1))],true)],[],⟨Tok.mk 4 ⟨#[]⟩ a,by first|exact⟨rfl,fun t' e' h=>by cases h⟩|rfl⟩,aj ?_⟩
      simp only[tt,seval,Tok.row]
     |some y=>
      obtain⟨x,e⟩:=y
      have hr:dq l a b=some (⟨4,⟨x.toArray⟩,a⟩,e):=by rw[hb39] at hq ⊢;rw[tV,hq];rfl
      have hqs:=hqs x e hq
      simp only[tt,seval,Bv,e39]
      have hno:decide (((e:Nat):Int)<0)=false:=decide_eq_false (by omega)
      try simp only[tt,seval,hno]
      refine cZ (fm (Tok.mk 4 ⟨x.toArray⟩ a) (by show x.length≤_;simp only[List.length_nil] at hqs;omega)) (by decide) ?_ ?_<;>simp only[tt,seval,Tok.row,hno]
      cases ho:cj (Tok.mk 4 ⟨x.toArray⟩ a) with
      |true=>
       have e1:bB l a b=some ((Tok.mk 4 ⟨x.toArray⟩ a),e):=dZ hr ho
       rw[e1]
       simp only[tt,seval,ho,hno,Bool.not_true,Bool.false_eq_true]
       refine⟨.tu [(an (Tok.mk 4 ⟨x.toArray⟩ a).row,false),([.v (.int .i64 ((e:Nat):Int))],true)],[],⟨(Tok.mk 4 ⟨x.toArray⟩ a),rfl,fun t' e' h=>by cases h;rfl⟩,aj ?_⟩
       simp only[tt,seval,Tok.row]
      |false=>
       have e1:bB l a b=none:=eT hr ho
       rw[e1]
       simp only[tt,seval,ho,hno,Bool.not_false]
       refine⟨.tu [(an (Tok.mk 4 ⟨x.toArray⟩ a).row,false),([.v (.int .i64 (-1))],true)],[],⟨(Tok.mk 4 ⟨x.toArray⟩ a),by first|exact⟨rfl,fun t' e' h=>by cases h⟩|rfl⟩,aj ?_⟩
       simp only[tt,seval,Tok.row]
    ·have e39:((b.toNat:Int)=39)=False:=eq_false fun h=>hb39 (UInt8.toNat_inj.1 (by show b.toNat=39;omega))
     simp only[tt,seval,e39,false_implies,not_false_eq_true,true_implies,true_and]
     have hraw:dq l a b=some (⟨5,bo l a (ee l a),a⟩,ee l a):=by
      unfold dq
      simp only[ge,ij,hL,hF,hb34,hb39,Bool.false_eq_true,if_false]
     have hsg:=s9 ha
     have e2:IntKind.i64.wrap ((a:Int)+2)=((a+2:Nat):Int):=by rw[ak (by omega) (by omega)];omega
     have e1':(a:Int)+1=((a+1:Nat):Int):=by omega
     rw[e2]
     refine fun _=>?_
     by_cases h2:a+2≤s.size
     ·have g2:decide (((a+2:Nat):Int)≤(s.size:Int))=true:=decide_eq_true (by omega)
      simp only[tt,seval,g2,e2]
      rw[ic (by kernel_rfl) (show s.size≤9223372036854775807 by omega) (by omega) (by omega) (by omega),Int.toNat_natCast,Int.toNat_natCast,j2 hl]
      simp only[tt,seval]
      refine cZ (uG (bo l a (a+2))) (by decide) ?_ ?_<;>simp only[tt,seval,e2]
      cases hs2:ii (bo l a (a+2)) with
      |true=>
       have hsn:ee l a=a+2:=by unfold ee;rw[if_pos ⟨by omega,hs2⟩]
       simp only[tt,seval,hs2,e2]
       rw[hsn] at hraw hsg
       rw[ic (by kernel_rfl) (show s.size≤9223372036854775807 by omega) (by omega) (by omega) (by omega),Int.toNat_natCast,Int.toNat_natCast,j2 hl]
       simp only[tt,seval]
       have hsz:(bo l a (a+2)).size≤1048576:=by rw[j3];omega
       have hno:decide ((((a+2):Nat):Int)<0)=false:=decide_eq_false (by omega)
       try simp only[tt,seval,hno]
       refine cZ (fm (Tok.mk 5 (bo l a (a+2)) a) hsz) (by decide) ?_ ?_<;>simp only[tt,seval,Tok.row,hno]
       cases ho:cj (Tok.mk 5 (bo l a (a+2)) a) with
       |true=>
        have e1:bB l a b=some ((Tok.mk 5 (bo l a (a+2)) a),(a+2)):=dZ hraw ho
        rw[e1]
        simp only[tt,seval,ho,hno,Bool.not_true,Bool.false_eq_true]
        refine⟨.tu [(an (Tok.mk 5 (bo l a (a+2)) a).row,false),([.v (.int .i64 (((a+2):Nat):Int))],true)],[],⟨(Tok.mk 5 (bo l a (a+2)) a),rfl,fun t' e' h=>by cases h;rfl⟩,aj ?_⟩
        simp only[tt,seval,Tok.row]
       |false=>
        have e1:bB l a b=none:=eT hraw ho
        rw[e1]
        simp only[tt,seval,ho,hno,Bool.not_false]
        refine⟨.tu [(an (Tok.mk 5 (bo l a (a+2)) a).row,false),([.v (.int .i64 (-1))],true)],[],⟨(Tok.mk 5 (bo l a (a+2)) a),by first|exact⟨rfl,fun t' e' h=>by cases h⟩|rfl⟩,aj ?_⟩
        simp only[tt,seval,Tok.row]
      |false=>
       have hsn:ee l a=a+1:=by unfold ee;rw[if_neg (by rw[hs2];simp)]
       simp only[tt,seval,hs2,Bool.false_eq_true]
       rw[e1']
       rw[hsn] at hraw hsg
       rw[ic (by kernel_rfl) (show s.size≤9223372036854775807 by omega) (by omega) (by omega) (by omega),Int.toNat_natCast,Int.toNat_natCast,j2 hl]
       simp only[tt,seval]
       have hsz:(bo l a (a+1)).size≤1048576:=by rw[j3];omega
       have hno:decide ((((a+1):Nat):Int)<0)=false:=decide_eq_false (by omega)
       try simp only[tt,seval,hno]
       refine cZ (fm (Tok.mk 5 (bo l a (a+1)) a) hsz) (by decide) ?_ ?_<;>simp only[tt,seval,Tok.row,hno]
       cases ho:cj (Tok.mk 5 (bo l a (a+1)) a) with
       |true=>
        have e1:bB l a b=some ((Tok.mk 5 (bo l a (a+1)) a),(a+1)):=dZ hraw ho
        rw[e1]
        simp only[tt,seval,ho,hno,Bool.not_true,Bool.false_eq_true]
        refine⟨.tu [(an (Tok.mk 5 (bo l a (a+1)) a).row,false),([.v (.int .i64 (((a+1):Nat):Int))],true)],[],⟨(Tok.mk 5 (bo l a (a+1)) a),rfl,fun t' e' h=>by cases h;rfl⟩,aj ?_⟩
        simp only[tt,seval,Tok.row]
       |false=>
        have e1:bB l a b=none:=eT hraw ho
        rw[e1]
        simp only[tt,seval,ho,hno,Bool.not_false]
        refine⟨.tu [(an (Tok.mk 5 (bo l a (a+1)) a).row,false),([.v (.int .i64 (-1))],true)],[],⟨(Tok.mk 5 (bo l a (a+1)) a),by first|exact⟨rfl,fun t' e' h=>by cases h⟩|rfl⟩,aj ?_⟩
        simp only[tt,seval,Tok.row]
     ·have g2:decide (((a+2:Nat):Int)≤(s.size:Int))=false:=decide_eq_false (by omega)
      have hsn:ee l a=a+1:=by unfold ee;rw[if_neg (by omega)]
      simp only[tt,seval,g2,e2,Bool.false_eq_true]
      rw[e1']
      rw[hsn] at hraw hsg
      rw[ic (by kernel_rfl) (show s.size≤9223372036854775807 by omega) (by omega) (by omega) (by omega),Int.toNat_natCast,Int.toNat_natCast,j2 hl]
      simp only[tt,seval]
      have hsz:(bo l a (a+1)).size≤1048576:=by rw[j3];omega
      have hno:decide ((((a+1):Nat):Int)<0)=false:=decide_eq_false (by omega)
      try simp only[tt,seval,hno]
      refine cZ (fm (Tok.mk 5 (bo l a (a+1)) a) hsz) (by decide) ?_ ?_<;>simp only[tt,seval,Tok.row,hno]
      cases ho:cj (Tok.mk 5 (bo l a (a+1)) a) with
      |true=>
       have e1:bB l a b=some ((Tok.mk 5 (bo l a (a+1)) a),(a+1)):=dZ hraw ho
       rw[e1]
       simp only[tt,seval,ho,hno,Bool.not_true,Bool.false_eq_true]
       refine⟨.tu [(an (Tok.mk 5 (bo l a (a+1)) a).row,false),([.v (.int .i64 (((a+1):Nat):Int))],true)],[],⟨(Tok.mk 5 (bo l a (a+1)) a),rfl,fun t' e' h=>by cases h;rfl⟩,aj ?_⟩
       simp only[tt,seval,Tok.row]
      |false=>
       have e1:bB l a b=none:=eT hraw ho
       rw[e1]
       simp only[tt,seval,ho,hno,Bool.not_false]
       refine⟨.tu [(an (Tok.mk 5 (bo l a (a+1)) a).row,false),([.v (.int .i64 (-1))],true)],[],⟨(Tok.mk 5 (bo l a (a+1)) a),by first|exact⟨rfl,fun t' e' h=>by cases h⟩|rfl⟩,aj ?_⟩
       simp only[tt,seval,Tok.row]
def l7:List Tok ⊕ Nat→List Tok×Int
 |.inl m=>(m,-1)
 |.inr p=>([],p)
set_option maxHeartbeats 4000000 in
theorem Bz (s:ByteArray) (hs:s.size≤1048576):Cl Tryz.prog 72 [vs s] [] fun r _=>r = .tu [([.sl (l7 (gi s)).1.length ((l7 (gi s)).1.flatMap Tok.row) none],true),([.v (.int .i64 (l7 (gi s)).2)],true)]:=by
 obtain⟨l,hl⟩:∃l,l=s.data.toList:=⟨_,rfl⟩
 have hll:l.length=s.size:=by rw[hl];exact bS s
 obtain⟨rr,hrr⟩:=pJ (B:=l) (l.length+1) 0 [] (by omega) (by omega)
 refine ab aa false Tryz.func72 rfl (by kernel_rfl) ?_
 simp only[Tryz.f72,tt,seval]
 refine fun _=>And.intro (fun hg=>?_) (fun hg=>?_)
 ·have e:gi s = .inr 2000:=by unfold gi;rw[if_pos (by omega)]
  rw[e]
  refine⟨.tu [([.sl 0 [] none],true),([.v (.int .i64 2000)],true)],[],rfl,aj ?_⟩
  simp only[tt,seval]
 have e:gi s=rr:=by unfold gi;rw[if_neg (by omega),←hl,hrr];rfl
 rw[e]
 refine dLoop.gh [.ren 8 40] ⟨by decide,by decide,?_⟩
 refine dLoop0.intro (fun f' L p=>∃(i n:Nat) (m:List Tok),f' 5=vi i∧f' 4 = .c (.s 40 m.length)∧i≤s.size∧m.length≤i∧ro l n i m=some rr∧l.length+1≤n+i∧L=[(40,.arr 76 m.length (m.flatMap Tok.row) none)]∧p=none) (fun f' _ _=>(s.size-bn (f' 5)).toNat) [(40,.arr 76 0 [] none)] none ⟨SubO.cons rfl (SubO.nil _),PoSub.none _,?_⟩ ?_
 ·simp only[tt,seval]
  exact⟨0,l.length+1,[],rfl,rfl,by omega,by simp,hrr,by omega,rfl⟩
 ·rintro g L p ⟨i,n,m,h5,h4,hi,hml,he,hn,rfl,rfl⟩
  simp only[tt,seval] at h5 h4
  cases n with
  |zero=>exact absurd hn (by omega)
  |succ n=>
  rw[ro] at he
  obtain⟨q,okb,hp,hiq,hqs⟩:=fT (B:=l) (l.length+1) i (by omega) (by omega)
  rw[hp] at he
  simp only at he
  have cp:=Bw s i hs hi
  rw[←hl,hp] at cp
  simp only[tt,seval,h5,h4]
  refine cZ (cp) (by decide) ?_ ?_<;>simp only[tt,seval,h5,h4]
  cases okb with
  |false=>
   rw[if_pos rfl] at he
   injection he with he;subst he
   have hneg:decide ((-(q:Int)-1)<0)=true:=decide_eq_true (by omega)
   have hneg':((-(q:Int)-1)<0)=True:=eq_true (by omega)
   simp only[tt,seval,DX,hneg,hneg',true_implies,not_true_eq_false,false_implies,and_true]
   rw[ak (n:=-(-(q:Int)-1)) (by omega) (by omega),ak (by omega) (by omega)]
   refine⟨.tu [([.sl 0 [] none],true),([.v (.int .i64 (q:Nat))],true)],[],rfl,aj ?_⟩
   simp only[tt,seval]
   omega
  |true=>
   rw[if_neg (by simp)] at he
   have hneg':((q:Int)<0)=False:=eq_false (by omega)
   simp only[tt,seval,DX,hneg',not_false_eq_true,true_implies,false_implies,true_and]
   refine fun _=>?_
   by_cases hqe:s.size≤q
   ·have hq1:((s.size:Int)≤(q:Int))=True:=eq_true (by omega)
    rw[List.getElem?_eq_none_iff.2 (by omega)] at he
    simp only at he
    injection he with he;subst he
    simp only[tt,seval,h4,h5,hq1,true_implies,not_true_eq_false,false_implies,and_true]
    trace_state
    refine⟨.tu [([.sl m.length (m.flatMap Tok.row) none],true),([.v (.int .i64 (-1))],true)],[],rfl,aj ?_⟩
    simp only[tt,seval]
   ·have hq1:((s.size:Int)≤(q:Int))=False:=eq_false (by omega)
    have hql:q<l.length:=by omega
    have hb:l[q]?=some l[q]:=List.getElem?_eq_getElem hql
    rw[hb] at he
    simp only at he
    have co:=CX s q l[q] hs (by rw[←hl];exact hb)
    rw[←hl] at co
    have osp:=fun t e=>kA (e:=e) (t:=t) hb
    generalize l[q]=b at *
    simp only[tt,seval,h4,h5,hq1,not_false_eq_true,true_implies,false_implies,true_and]
    cases ho:bB l q b with
    |none=>
     rw[ho] at he co
     simp only at he
     injection he with he;subst he
     refine fc (co) ?_ ?_ ?_
     ·decide
     ·simp only[tt,seval,h4,h5,Bx,Tok.row]
     rintro r ⟨t,rfl,_⟩
     simp only[tt,seval,h4,h5,Bx,Tok.row]
     refine⟨.tu [([.sl 0 [] none],true),([.v (.int .i64 (q:Nat))],true)],[],rfl,aj ?_⟩
     simp only[tt,seval]
    |some y=>
     obtain⟨t,e⟩:=y
     rw[ho] at he co
     simp only at he
     obtain⟨he1,he2,_⟩:=osp t e ho
     have hne:((e:Int)<0)=False:=eq_false (by omega)
     refine fc (co) ?_ ?_ ?_
     ·decide
     ·simp only[tt,seval,h4,h5,Bx,Tok.row,hne,not_false_eq_true,true_implies,false_implies,true_and]
     rintro r ⟨t',rfl,ht⟩
     simp only[tt,seval,h4,h5,Bx,Tok.row,hne,not_false_eq_true,true_implies,false_implies,true_and]
     obtain rfl:=ht t e rfl
     refine⟨by kernel_rfl,⟨by simp only[maxLen];omega,by omega⟩,?_⟩
     refine⟨[(40,.arr 76 (m++[t']).length ((m++[t']).flatMap Tok.row) none)],none,by simp only[List.flatMap_append,List.length_append,List.flatMap_cons,List.flatMap_nil,List.append_nil,Tok.row];exact SubO.cons rfl (SubO.nil _),PoSub.none _,⟨e,n,m++[t'],rfl,by simp,by omega,by simp;omega,he,by omega,rfl,rfl⟩,by simp only[bn];omega⟩
def vL:Option (List UInt8×Nat)→S
 |some (x,e)=>.tu [([.v (.string ⟨x.toArray⟩)],true),([.v (.int .i64 (e:Nat))],true),([.v (.bool true)],true)]
 |none=>.tu [([.v (.string ⟨#[]⟩)],true),([.v (.int .i64 0)],true),([.v (.bool false)],true)]
theorem oh (s:ByteArray) (a:Nat) (q:UInt8) (hs:s.size≤1048576) (hq:s.data.toList[a]?=some q):Cl Tryz.prog 236 [vs s,vi a] [] fun r _=>r=vL (eu s.data.toList q (s.data.toList.length+1) (a+1) []):=by
 obtain⟨l,hl⟩:∃l,l=s.data.toList:=⟨_,rfl⟩
 have hll:l.length=s.size:=by rw[hl];exact bS s
 rw[←hl] at hq ⊢
 obtain⟨ha,hqa⟩:=List.getElem?_eq_some_iff.1 hq
 refine ab aa false Tryz.func236 rfl (by kernel_rfl) ?_
 simp only[Tryz.f236,tt,seval]
 rw[dM hl ha,hqa]
 simp only[tt,seval]
 rw[ak (n:=(a:Int)+1) (by omega) (by omega)]
 refine dLoop.gh [.ren 13 51] ⟨by decide,by decide,?_⟩
 refine dLoop0.intro (fun f' L p=>∃(i n:Nat) (bs:List UInt8),f' 9=vi i∧f' 8 = .c (.s 51 bs.length)∧i≤s.size∧bs.length≤i∧eu l q n i bs=eu l q (l.length+1) (a+1) []∧l.length+1≤n+i∧L=[(51,.arr 5 bs.length (bU bs) none)]∧p=none) (fun f' _ _=>(s.size-bn (f' 9)).toNat) [(51,.arr 5 0 (bU []) none)] none ⟨SubO.cons rfl (SubO.nil _),PoSub.none _,?_⟩ ?_
 ·simp only[tt,seval]
  exact⟨a+1,l.length+1,[],rfl,rfl,by omega,by simp,rfl,by omega,rfl⟩
 ·rintro g L p ⟨i,n,bs,h9,h8,hi,hbl,he,hn,rfl,rfl⟩
  simp only[tt,seval] at h9 h8
  simp only[tt,seval,h9,h8,Int.ofNat_lt]
  cases n with
  |zero=>exact absurd hn (by omega)
  |succ n=>
  rw[eu] at he
  refine fun _=>And.intro (fun hlt=>?_) (fun hge=>?_)
  ·have hil:i<l.length:=by omega
   have hx:l[i]?=some l[i]:=List.getElem?_eq_getElem hil
   have ex:bs.length≤9223372036854775807:=by omega
   have ew:IntKind.i64.wrap ((i:Int)+1)=((i+1:Nat):Int):=by rw[ak (by omega) (by omega)];omega
   rw[hx] at he
   simp only at he
   rw[dM hl hil]
   simp only[tt,seval,h9,h8]
   by_cases hc:l[i]=q
   ·have eq1:((l[i].toNat:Int)=(q.toNat:Int))=True:=eq_true (by rw[hc])
    rw[if_pos hc] at he
    simp only[tt,seval,eq1,true_implies,not_true_eq_false,false_implies,and_true]
    refine fun _=>?_
    rw[ew]
    by_cases hi1:i+1<l.length
    ·have g1:decide (((i+1:Nat):Int)=(s.size:Int))=false:=decide_eq_false (by omega)
     rw[List.getElem?_eq_getElem hi1] at he
     simp only[tt,seval,h9,h8,g1,ew]
     rw[dM hl hi1]
     simp only[tt,seval,h9,h8]
     refine And.intro (fun hne=>?_) (fun heq=>?_)
     ·have hd:¬l[i+1]=q:=fun e=>by rw[e] at hne;simp at hne
      rw[if_neg (by simpa using hd)] at he
      refine⟨by kernel_rfl,by simp only[maxLen];omega,bs,rfl,rfl,?_⟩
      simp only[tt,seval,h9,h8,ew]
      rw[←he]
      exact⟨_,_,rfl,ac rfl⟩
     ·have hd:l[i+1]=q:=UInt8.toNat_inj.1 (by simp at heq;omega)
      rw[if_pos (by rw[hd])] at he
      rw[ew,dM hl hi1]
      simp only[tt,seval,h9,h8]
      refine⟨by kernel_rfl,⟨by simp only[maxLen];omega,by omega⟩,?_⟩
      rw[jd,hd,ak (n:=((i+1:Nat):Int)+1) (by omega) (by omega)]
      refine⟨[(51,.arr 5 (bs++[q]).length (bU (bs++[q])) none)],none,SubO.cons (by simp [Go.Dv.look]) (SubO.nil _),PoSub.none _,⟨i+2,n,bs++[q],eX (by omega),by simp,by omega,by simp;omega,he,by omega,rfl,rfl⟩,by simp only[bn];omega⟩
    ·have g1:decide (((i+1:Nat):Int)=(s.size:Int))=true:=decide_eq_true (by omega)
     rw[List.getElem?_eq_none_iff.2 (by omega),if_neg (by simp)] at he
     simp only[tt,seval,h9,h8,g1,ew]
     refine⟨by kernel_rfl,by simp only[maxLen];omega,bs,rfl,rfl,?_⟩
     simp only[tt,seval,h9,h8,ew]
     rw[←he]
     exact⟨_,_,rfl,ac rfl⟩
   ·have eq1:((l[i].toNat:Int)=(q.toNat:Int))=False:=eq_false fun h=>hc (UInt8.toNat_inj.1 (by omega))
    rw[if_neg hc] at he
    simp only[tt,seval,eq1,false_implies,not_false_eq_true,true_implies,true_and]
    rw[dM hl hil]
    simp only[tt,seval,h9,h8]
    refine⟨by kernel_rfl,⟨by simp only[maxLen];omega,by omega⟩,?_⟩
    rw[jd,ew]
    refine⟨[(51,.arr 5 (bs++[l[i]]).length (bU (bs++[l[i]])) none)],none,SubO.cons (by simp [Go.Dv.look]) (SubO.nil _),PoSub.none _,⟨i+1,n,bs++[l[i]],rfl,by simp,by omega,by simp;omega,he,by omega,rfl,rfl⟩,by simp only[bn];omega⟩
  ·have:i=s.size:=by omega
   subst this
   rw[List.getElem?_eq_none_iff.2 (by omega)] at he
   simp only at he
   rw[←he]
   exact⟨_,_,rfl,ac rfl⟩
end Go.Proofs.YteffjmaadkkmeaaGreatDoor
namespace Go.Proofs.YteffjmaadkkmeaaGreatDoor
open Go Go.Shelf Go.Proofs
def Tryz.lays143_ren:Go.Shelf.Ren:=⟨fun|143=>231|219=>275|217=>273|225=>312|224=>313|267=>314|266=>311|314=>330|n=>n,fun|9=>9|3=>3|4=>4|5=>5|46=>251|146=>268|51=>267|n=>n,fun|1=>0|n=>n⟩
theorem Tryz.lays143:Go.Proofs.Lays.n143 Tryz.prog Tryz.lays143_ren:={
 mixed:=by kernel_rfl
 f143:=Tryz.func231.trans (congrArg some (by kernel_rfl))
 f217:=Tryz.func273.trans (congrArg some (by kernel_rfl))
 f219:=Tryz.func275.trans (congrArg some (by kernel_rfl))
 f224:=Tryz.func313.trans (congrArg some (by kernel_rfl))
 f225:=Tryz.func312.trans (congrArg some (by kernel_rfl))
 f266:=Tryz.func311.trans (congrArg some (by kernel_rfl))
 f267:=Tryz.func314.trans (congrArg some (by kernel_rfl))
 f314:=Tryz.func330.trans (congrArg some (by kernel_rfl))
 t3:=Tryz.underlying3
 a3:=Tryz.isAgg3
 z3:=Tryz.sizeOf3
 v3:=Tryz.zeroValue3
 t4:=Tryz.underlying4
 a4:=Tryz.isAgg4
 z4:=Tryz.sizeOf4
 v4:=Tryz.zeroValue4
 t5:=Tryz.underlying5
 a5:=Tryz.isAgg5
 z5:=Tryz.sizeOf5
 v5:=Tryz.zeroValue5
 t9:=Tryz.underlying9
 a9:=Tryz.isAgg9
 z9:=Tryz.sizeOf9
 v9:=Tryz.zeroValue9
 t46:=Tryz.underlying251
 a46:=Tryz.isAgg251
 z46:=Tryz.sizeOf251
 v46:=Tryz.zeroValue251
 t51:=Tryz.underlying267
 a51:=Tryz.isAgg267
 z51:=Tryz.sizeOf267
 v51:=Tryz.zeroValue267
 t146:=Tryz.underlying268
 a146:=Tryz.isAgg268
 z146:=Tryz.sizeOf268
 v146:=Tryz.zeroValue268
 g1:=by kernel_rfl }
def Tryz.lays137_ren:Go.Shelf.Ren:=⟨fun|137=>229|217=>273|266=>311|n=>n,fun|9=>9|5=>5|3=>3|n=>n,fun|n=>n⟩
theorem Tryz.lays137:Go.Proofs.Lays.n137 Tryz.prog Tryz.lays137_ren:={
 mixed:=by kernel_rfl
 f137:=Tryz.func229.trans (congrArg some (by kernel_rfl))
 f217:=Tryz.func273.trans (congrArg some (by kernel_rfl))
 f266:=Tryz.func311.trans (congrArg some (by kernel_rfl))
 t3:=Tryz.underlying3
 a3:=Tryz.isAgg3
 z3:=Tryz.sizeOf3
 v3:=Tryz.zeroValue3
 t5:=Tryz.underlying5
 a5:=Tryz.isAgg5
 z5:=Tryz.sizeOf5
 v5:=Tryz.zeroValue5
 t9:=Tryz.underlying9
 a9:=Tryz.isAgg9
 z9:=Tryz.sizeOf9
 v9:=Tryz.zeroValue9 }
def Tryz.lays99_ren:Go.Shelf.Ren:=⟨fun|99=>230|206=>274|n=>n,fun|9=>9|4=>4|3=>3|n=>n,fun|n=>n⟩
theorem Tryz.lays99:Go.Proofs.Lays.n99 Tryz.prog Tryz.lays99_ren:={
 mixed:=by kernel_rfl
 f99:=Tryz.func230.trans (congrArg some (by kernel_rfl))
 f206:=Tryz.func274.trans (congrArg some (by kernel_rfl))
 t3:=Tryz.underlying3
 a3:=Tryz.isAgg3
 z3:=Tryz.sizeOf3
 v3:=Tryz.zeroValue3
 t4:=Tryz.underlying4
 a4:=Tryz.isAgg4
 z4:=Tryz.sizeOf4
 v4:=Tryz.zeroValue4
 t9:=Tryz.underlying9
 a9:=Tryz.isAgg9
 z9:=Tryz.sizeOf9
 v9:=Tryz.zeroValue9 }
end Go.Proofs.YteffjmaadkkmeaaGreatDoor
set_option maxRecDepth 8000
namespace Go.Proofs.YteffjmaadkkmeaaGreatDoor
open Go Go.Dv
open Go.Vc (D eb ec dK bN)
open Go.RowKit (Below)
theorem nf (w:World):Below w.heap.size w w:=⟨rfl,rfl,rfl,Nat.le_refl _,fun _ _=>rfl⟩
theorem lK (s p:ByteArray):Cl Tryz.prog 230 [vs s,vs p] [] fun r _=>r=vb (Lib.hasPrefix s.data.toList p.data.toList):=
 Cl.ofVals (by kernel_rfl) [.string s,.string p] fun w hg=>by
  refine (Any.strings_HasPrefix Tryz.lays99 s p w).mono ?_
  rintro e w' ⟨rfl,rfl⟩
  exact⟨_,rfl,trivial,rfl,nf _⟩
theorem pm (s:ByteArray) (c:UInt8):Cl Tryz.prog 229 [vs s,vu (c.toNat:Int)] [] fun r _=>r=vi (Lib.indexByte s.data.toList c):=
 Cl.ofVals (by kernel_rfl) [.string s,.int .u8 (c.toNat:Int)] fun w hg=>by
  refine (Any.strings_IndexByte Tryz.lays137 s (c.toNat:Int) w).mono ?_
  rintro e w' ⟨rfl,rfl⟩
  exact⟨_,rfl,trivial,by simp,nf _⟩
theorem BA (s p:ByteArray) (hs:s.size≤1048576):Cl Tryz.prog 231 [vs s,vs p] [] fun r _=>r=vi (Lib.index s.data.toList p.data.toList):=
 Cl.ofVals (by kernel_rfl) [.string s,.string p] fun w hg=>by
  obtain⟨m,hm⟩:=A8 hg
  refine (Any.strings_Index Tryz.lays143 s p m w (by omega) hm).mono ?_
  rintro e w' ⟨rfl,rfl⟩
  exact⟨_,rfl,trivial,rfl,nf _⟩
theorem tW {s:ByteArray} {l:List UInt8} (hl:l=s.data.toList) (i:Nat):s.extract i s.size=⟨(l.drop i).toArray⟩:=by
 rw[j2 hl]
 unfold bo
 rw[List.take_of_length_le]
 rw[List.length_drop,hl,bS]
 exact Nat.le_refl _
theorem DY (l:List UInt8) (i:Nat) (a b:UInt8):Lib.hasPrefix (l.drop i) [a,b]=decide (l[i]?=some a∧l[i+1]?=some b):=by
 have h0:l[i]?=(l.drop i)[0]?:=by simp [List.getElem?_drop]
 have h1:l[i+1]?=(l.drop i)[1]?:=by simp [List.getElem?_drop]
 rw[h0,h1]
 unfold Lib.hasPrefix
 generalize l.drop i=m
 match m with
 | []=>simp
 | [x]=>
  show (a==x&&false)=_
  simp
 |x::y::r=>
  show (a==x&&(b==y&&true))=_
  by_cases h1:x=a
  ·by_cases h2:y=b
   ·simp [h1,h2]
   ·have h2':¬b=y:=fun e=>h2 e.symm
    simp [h1,h2,h2']
  ·have h1':¬a=x:=fun e=>h1 e.symm
   simp [h1,h1']
theorem yA (l:List UInt8):∀n j,l.length-j≤n→dX l (dX l j)=dX l j
 |0,j,h=>by
  have:=fN (B:=l) j
  rw[List.getElem?_eq_none_iff.2 (by omega)] at this
  simp only at this
  rw[this,this]
 |n+1,j,h=>by
  have:=fN (B:=l) j
  cases hx:l[j]? with
  |none=>
   rw[hx] at this
   simp only at this
   rw[this,this]
  |some b=>
   rw[hx] at this
   simp only at this
   split at this
   ·rw[this,this]
   ·rw[this];exact yA l n (j+1) (by omega)
theorem CY (l:List UInt8) (c:UInt8):Lib.indexByte l c=if (l.takeWhile fun b=>!(b==c)).length<l.length then ((l.takeWhile fun b=>!(b==c)).length:Int) else -1:=by
 induction l with
 |nil=>rfl
 |cons b r ih=>
  unfold Lib.indexByte
  rw[List.takeWhile_cons]
  by_cases h:(b==c)=true
  ·simp [h]
  ·rw[if_neg h,ih]
   have hb:(!(b==c))=true:=by simp [h]
   simp only[hb,if_true,List.length_cons,Nat.add_lt_add_iff_right]
   split
   ·rw[if_neg (by simp only[beq_iff_eq];omega)];omega
   ·rw[if_pos (by rfl)]
theorem DZ (b:UInt8):0≤Lib.indexByte [32,9,10,13] b↔uK b=true:=by
 unfold uK
 simp only[Lib.indexByte,Bool.or_eq_true,beq_iff_eq]
 by_cases h1:b=32
 ·subst h1;decide
 by_cases h2:b=9
 ·subst h2;decide
 by_cases h3:b=10
 ·subst h3;decide
 by_cases h4:b=13
 ·subst h4;decide
 simp only[h1,h2,h3,h4,eq_comm,or_self,iff_false,if_false]
 simp [h1,h2,h3,h4,eq_comm]
theorem yB (l:List UInt8):∀n i,i≤l.length→l.length+1≤n+i→mC l n i=(if Lib.index (l.drop i) [42,47] = -1 then none else some (i+(Lib.index (l.drop i) [42,47]).toNat))
 |0,i,hi,hn=>absurd hn (by omega)
 |n+1,i,hi,hn=>by
  rw[mC]
  have hp:=DY l i 42 47
  unfold Lib.hasPrefix at hp
  by_cases hlt:i<l.length
  ·rw[List.drop_eq_getElem_cons hlt] at hp ⊢
   unfold Lib.index
   rw[hp]
   by_cases hq:l[i]?=some 42∧l[i+1]?=some 47
   ·rw[if_pos hq,decide_eq_true hq];simp
   ·rw[if_neg hq,if_pos hlt,decide_eq_false hq,yB l n (i+1) (by omega) (by omega)]
    have hg:=Lib.index_ge (l.drop (i+1)) [42,47]
    by_cases hm:Lib.index (l.drop (i+1)) [42,47] = -1
    ·simp [hm]
    ·simp only[hm,Bool.false_eq_true,if_false,beq_iff_eq]
     rw[if_neg (by omega)]
     congr 1
     omega
  ·have hq:¬(l[i]?=some 42∧l[i+1]?=some 47):=fun h=>hlt (List.getElem?_eq_some_iff.1 h.1).1
   rw[if_neg hq,if_neg hlt,List.drop_eq_nil_of_le (by omega)]
   rfl
def Ey:Option (Nat×Bool)→S
 |some (p,b)=>.tu [([.v (.int .i64 (p:Nat))],true),([.v (.bool b)],true)]
 |none=>.tu []
set_option maxHeartbeats 4000000 in
theorem E0 (s:ByteArray) (a:Nat) (hs:s.size≤1048576) (ha:a≤s.size):Cl Tryz.prog 185 [vs s,vi a] [] fun r _=>r=Ey (gf s.data.toList (s.data.toList.length+1) a):=by
 obtain⟨l,hl⟩:∃l,l=s.data.toList:=⟨_,rfl⟩
 have hll:l.length=s.size:=by rw[hl];exact bS s
 rw[←hl]
 obtain⟨rr,ok,hrr,hr1,hr2⟩:=fT (B:=l) (l.length+1) a (by omega) (by omega)
 rw[hrr]
 refine ab aa false Tryz.func185 rfl (by kernel_rfl) ?_
 simp only[Tryz.f185,tt,seval]
 refine dLoop.intro (fun f' L p=>∃(j n:Nat),f' 1=vi j∧j≤s.size∧gf l n j=some (rr,ok)∧l.length+1≤n+j∧L=[]∧p=none) (fun f' _ _=>(s.size-bn (f' 1)).toNat) [] none ⟨SubO.nil _,PoSub.none _,?_⟩ ?_
 ·simp only[tt,seval]
  exact⟨a,l.length+1,rfl,ha,hrr,by omega⟩
 ·rintro g L p ⟨j,n,h1,hj,he,hn,rfl,rfl⟩
  simp only[tt,seval] at h1
  cases n with
  |zero=>exact absurd hn (by omega)
  |succ n=>
  rw[gf] at he
  simp only[tt,seval,h1,Int.ofNat_lt]
  refine fun _=>And.intro (fun hlt=>?_) (fun hge=>?_)
  ·have hil:j<l.length:=by omega
   have hrs:(⟨(l.drop j).toArray⟩:ByteArray).size≤1048576:=by show (l.drop j).toArray.size≤_;simp;omega
   rw[List.getElem?_eq_getElem hil] at he
   simp only at he
   rw[nY (by kernel_rfl) (show s.size≤9223372036854775807 by omega) (by omega) (by omega),Int.toNat_natCast,tW hl]
   simp only[tt,seval,h1]
   rw[dM hl hil]
   simp only[tt,seval,h1]
   have cw:=pm ⟨#[32,9,10,13]⟩ l[j]
   have hwi:=DZ l[j]
   refine cZ (cw) (by decide) ?_ ?_<;>simp only[tt,seval,h1]
   by_cases hw:uK l[j]=true
   ·rw[if_pos hw] at he
    have e1:(0≤Lib.indexByte [32,9,10,13] l[j])=True:=eq_true (hwi.2 hw)
    simp only[tt,seval,e1,h1,true_implies,not_true_eq_false,false_implies,and_true]
    rw[ak (n:=(j:Int)+1) (by omega) (by omega)]
    exact⟨[],none,SubO.nil _,PoSub.none _,⟨j+1,n,rfl,by omega,he,by omega,rfl,rfl⟩,by simp only[bn];omega⟩
   ·rw[if_neg hw] at he
    have e1:(0≤Lib.indexByte [32,9,10,13] l[j])=False:=eq_false fun h=>hw (hwi.1 h)
    simp only[tt,seval,e1,h1,false_implies,not_false_eq_true,true_implies,true_and]
    have c1:=lK ⟨(l.drop j).toArray⟩ ⟨#[45,45]⟩
    have e2:Lib.hasPrefix (⟨(l.drop j).toArray⟩:ByteArray).data.toList (⟨#[45,45]⟩:ByteArray).data.toList=decide (l[j]=45∧l[j+1]?=some 45):=by
     show Lib.hasPrefix (l.drop j) [45,45]=_
     rw[DY,List.getElem?_eq_getElem hil];simp
    rw[e2] at c1
    refine cZ (c1) (by decide) ?_ ?_<;>simp only[tt,seval,h1]
    by_cases hd:l[j]=45∧l[j+1]?=some 45
    ·have d1:decide (l[j]=45∧l[j+1]?=some 45)=true:=decide_eq_true hd
     have d1':(l[j]=45∧l[j+1]?=some 45)=True:=eq_true hd
     rw[if_pos hd] at he
     have hne:¬l[j]=10:=by rw[hd.1];decide
     have eol:=fN (B:=l) j
     rw[List.getElem?_eq_getElem hil] at eol
     simp only[hne,if_false] at eol
     have gol:=nA (B:=l) (j+1)
     have gl2:=uL (B:=l) (i:=j) (by omega)
     try simp only[tt,seval,h1,d1,d1',true_implies,not_true_eq_false,false_implies,and_true]
     have c2:=pm ⟨(l.drop j).toArray⟩ 10
     have e3:Lib.indexByte (⟨(l.drop j).toArray⟩:ByteArray).data.toList 10=if dX l j<l.length then ((dX l j:Nat):Int)-j else -1:=by
      show Lib.indexByte (l.drop j) 10=_
      rw[CY,List.length_drop]
      have:dX l j=j+((l.drop j).takeWhile fun b=>!(b==10)).length:=rfl
      split<;>split<;>omega
     rw[e3] at c2
     refine cZ (c2) (by decide) ?_ ?_<;>simp only[tt,seval,h1]
     cases n with
     |zero=>exact absurd hn (by omega)
     |succ n=>
     rw[gf] at he
     by_cases hE:dX l j<l.length
     ·have hv:l[dX l j]?=some 10:=by
       have:=fN (B:=l) (dX l j)
       have h2:=yA l _ j (Nat.le_refl _)
       rw[List.getElem?_eq_getElem hE] at this ⊢
       simp only at this
       split at this
       ·rename_i h;rw[h]
       ·have:=nA (B:=l) (dX l j+1);omega
      rw[hv] at he
      simp only[show uK 10=true from rfl,if_true] at he
      have f1:((if dX l j<l.length then ((dX l j:Nat):Int)-j else -1)<0)=False:=eq_false (by rw[if_pos hE];omega)
      have f1':(((dX l j:Nat):Int)-j<0)=False:=eq_false (by omega)
      simp only[tt,seval,h1,f1',hE,false_implies,not_false_eq_true,true_implies,true_and,if_true]
      rw[ak (n:=((dX l j:Nat):Int)-j+1) (by omega) (by omega),ak (n:=(j:Int)+(((dX l j:Nat):Int)-j+1)) (by omega) (by omega)]
      exact⟨[],none,SubO.nil _,PoSub.none _,⟨dX l j+1,n,eX (by omega),by omega,he,by omega,rfl,rfl⟩,by simp only[bn];omega⟩
     ·rw[List.getElem?_eq_none_iff.2 (by omega)] at he
      simp only at he
      injection he with he;injection he with he1 he2;subst he1 he2
      have f1:((if dX l j<l.length then ((dX l j:Nat):Int)-j else -1)<0)=True:=eq_true (by rw[if_neg hE];omega)
      simp only[tt,seval,h1,f1,true_implies,not_true_eq_false,false_implies,and_true]
      refine fun _=>⟨.tu [([.v (.int .i64 (s.size:Nat))],true),([.v (.bool true)],true)],[],?_,ac rfl⟩
      rw[show dX l j=s.size by omega];rfl
    ·have d1:decide (l[j]=45∧l[j+1]?=some 45)=false:=decide_eq_false hd
     have d1':(l[j]=45∧l[j+1]?=some 45)=False:=eq_false hd
     rw[if_neg hd] at he
     try simp only[tt,seval,h1,d1,d1',false_implies,not_false_eq_true,true_implies,true_and,Bool.false_eq_true]
     have c2:=lK ⟨(l.drop j).toArray⟩ ⟨#[47,42]⟩
     have e3:Lib.hasPrefix (⟨(l.drop j).toArray⟩:ByteArray).data.toList (⟨#[47,42]⟩:ByteArray).data.toList=decide (l[j]=47∧l[j+1]?=some 42):=by
      show Lib.hasPrefix (l.drop j) [47,42]=_
      rw[DY,List.getElem?_eq_getElem hil];simp
     rw[e3] at c2
     refine cZ (c2) (by decide) ?_ ?_<;>simp only[tt,seval,h1]
     by_cases hc:l[j]=47∧l[j+1]?=some 42
     ·have d2:decide (l[j]=47∧l[j+1]?=some 42)=true:=decide_eq_true hc
      have d2':(l[j]=47∧l[j+1]?=some 42)=True:=eq_true hc
      rw[if_pos hc] at he
      have hj2:j+1<l.length:=(List.getElem?_eq_some_iff.1 hc.2).1
      try simp only[tt,seval,h1,d2,d2',true_implies,not_true_eq_false,false_implies,and_true]
      have hrz:(⟨(l.drop j).toArray⟩:ByteArray).size=l.length-j:=by show (l.drop j).toArray.size=_;simp
      rw[nY (by kernel_rfl) (show ByteArray.size _≤9223372036854775807 by omega) (by omega) (by omega)]
      have e4:(⟨(l.drop j).toArray⟩:ByteArray).extract (2:Int).toNat (⟨(l.drop j).toArray⟩:ByteArray).size=⟨(l.drop (j+2)).toArray⟩:=by
       rw[tW (l:=l.drop j) (by simp)]
       simp [List.drop_drop]
      rw[e4]
      simp only[tt,seval,h1]
      have c3:=BA ⟨(l.drop (j+2)).toArray⟩ ⟨#[42,47]⟩ (by show (l.drop (j+2)).toArray.size≤_;simp;omega)
      have e5:Lib.index (⟨(l.drop (j+2)).toArray⟩:ByteArray).data.toList (⟨#[42,47]⟩:ByteArray).data.toList=Lib.index (l.drop (j+2)) [42,47]:=rfl
      rw[e5] at c3
      have hx:=yB l (l.length+1) (j+2) (by omega) (by omega)
      have hg:=Lib.index_ge (l.drop (j+2)) [42,47]
      generalize Lib.index (l.drop (j+2)) [42,47]=ix at *
      refine cZ (c3) (by decide) ?_ ?_<;>simp only[tt,seval,h1]
      rw[hx] at he
      by_cases hm:ix = -1
      ·rw[if_pos hm] at he
       simp only at he
       injection he with he;injection he with he1 he2;subst he1 he2
       have f1:(ix<0)=True:=eq_true (by omega)
       simp only[tt,seval,h1,f1,true_implies,not_true_eq_false,false_implies,and_true]
       exact⟨_,_,rfl,ac rfl⟩
      ·rw[if_neg hm] at he hx
       have hsp:=mR hx
       simp only at he
       have f1:(ix<0)=False:=eq_false (by omega)
       simp only[tt,seval,h1,f1,false_implies,not_false_eq_true,true_implies,true_and]
       rw[ak (n:=ix+4) (by omega) (by omega),ak (n:=(j:Int)+(ix+4)) (by omega) (by omega)]
       exact⟨[],none,SubO.nil _,PoSub.none _,⟨j+2+ix.toNat+2,n,eX (by omega),by omega,he,by omega,rfl,rfl⟩,by simp only[bn];omega⟩
     ·have d2:decide (l[j]=47∧l[j+1]?=some 42)=false:=decide_eq_false hc
      have d2':(l[j]=47∧l[j+1]?=some 42)=False:=eq_false hc
      rw[if_neg hc] at he
      injection he with he;injection he with he1 he2;subst he1 he2
      try simp only[tt,seval,h1,d2,d2',false_implies,not_false_eq_true,true_implies,true_and,Bool.false_eq_true]
      exact⟨_,_,rfl,ac rfl⟩
  ·have:j=s.size:=by omega
   subst this
   rw[List.getElem?_eq_none_iff.2 (by omega)] at he
   simp only at he
   injection he with he;injection he with he1 he2;subst he1 he2
   exact⟨_,_,rfl,ac rfl⟩
end Go.Proofs.YteffjmaadkkmeaaGreatDoor
set_option maxRecDepth 8000
namespace Go.Proofs.YteffjmaadkkmeaaGreatDoor
open Go Go.Dv
open Go.Vc (D eb ec dK bN)
theorem Ft {l:List UInt8} {a:Nat} (k:Nat) (s:List UInt8) (h:s <+: l.drop a) (hs:s.length=k):(⟨s.toArray⟩:ByteArray)=bo l a (a+k):=by
 unfold bo
 rw[Nat.add_sub_cancel_left,←hs,←List.prefix_iff_eq_take.1 h]
structure BestI (S:List ByteArray) (m:List UInt8) (t:ByteArray):Prop where
 got:t=⟨#[]⟩∨(t∈S∧t.data.toList <+: m)
 most:∀s∈S,s.data.toList <+: m→s.size≤t.size
theorem BestI.nil (m:List UInt8):BestI [] m ⟨#[]⟩:=⟨.inl rfl,fun _ h=>by cases h⟩
theorem BestI.yes {S:List ByteArray} {m:List UInt8} {t s:ByteArray} (h:BestI S m t) (hp:s.data.toList <+: m) (hl:t.size<s.size):BestI (S++[s]) m s:=
 ⟨.inr ⟨by simp,hp⟩,fun x hx hm=>by
   rcases List.mem_append.1 hx with hx|hx
   ·have:=h.most x hx hm;omega
   ·rw[List.mem_singleton.1 hx];exact Nat.le_refl _⟩
theorem BestI.no {S:List ByteArray} {m:List UInt8} {t s:ByteArray} (h:BestI S m t) (hp:s.data.toList <+: m→s.size≤t.size):BestI (S++[s]) m t:=
 ⟨h.got.imp id fun ⟨h1,h2⟩=>⟨by simp [h1],h2⟩,fun x hx hm=>by
   rcases List.mem_append.1 hx with hx|hx
   ·exact h.most x hx hm
   ·rw[List.mem_singleton.1 hx] at hm ⊢;exact hp hm⟩
theorem kI:∀s∈signs,1≤s.size∧s.size≤2:=by decide
theorem md {s:ByteArray}:ii s=true↔s∈signs:=by
 unfold ii
 simp [List.any_eq_true]
theorem yC (l:List UInt8) (a k:Nat):(bo l a (a+k)).data.toList <+: l.drop a:=by
 unfold bo
 rw[Nat.add_sub_cancel_left]
 exact List.take_prefix _ _
theorem zN {l:List UInt8} {a:Nat} {t:ByteArray} (ha:a<l.length) (h:BestI signs (l.drop a) t):(t=bo l a (ee l a)∧a+t.size=ee l a)∨(ii t=false∧ii (bo l a (ee l a))=false):=by
 have hlen:∀k,a+k≤l.length→(bo l a (a+k)).size=k:=fun k hk=>by
  unfold bo
  show ((l.drop a).take (a+k-a)).toArray.size=_
  simp;omega
 have ht2:t.size≤2:=by
  rcases h.got with rfl|⟨h1,_⟩
  ·exact Nat.zero_le _
  ·exact (kI _ h1).2
 have cutt:∀k,t.size=k→1≤k→t=bo l a (a+k)∧t∈signs:=fun k hk h1=>by
  rcases h.got with rfl|⟨h2,h3⟩
  ·exact absurd hk (by show ¬(0=k);omega)
  ·exact⟨Ft k t.data.toList h3 (by rw[←hk];simp),h2⟩
 unfold ee
 by_cases c2:a+2≤l.length∧ii (bo l a (a+2))=true
 ·rw[if_pos c2]
  have:=h.most _ (md.1 c2.2) (yC l a 2)
  rw[hlen 2 c2.1] at this
  have hz:t.size=2:=by omega
  exact .inl ⟨(cutt 2 hz (by omega)).1,by omega⟩
 ·rw[if_neg c2]
  have h2:t.size≠2:=fun hz=>by
   obtain⟨e,hm⟩:=cutt 2 hz (by omega)
   refine c2 ⟨?_,by rw[←e];exact md.2 hm⟩
   have:(bo l a (a+2)).size≤l.length-a:=by
    unfold bo
    show ((l.drop a).take (a+2-a)).toArray.size≤_
    simp;omega
   rw[←e] at this
   omega
  by_cases c1:ii (bo l a (a+1))=true
  ·have:=h.most _ (md.1 c1) (yC l a 1)
   rw[hlen 1 (by omega)] at this
   have hz:t.size=1:=by omega
   exact .inl ⟨(cutt 1 hz (by omega)).1,by omega⟩
  ·refine .inr ⟨?_,by simpa using c1⟩
   by_cases hz:t.size=1
   ·obtain⟨e,hm⟩:=cutt 1 hz (by omega)
    exact absurd (by rw[←e];exact md.2 hm) c1
   ·rcases h.got with rfl|⟨h3,_⟩
    ·rfl
    ·have:=(kI _ h3).1;omega
set_option maxHeartbeats 8000000 in
theorem vM (s:ByteArray) (a:Nat) (b:UInt8) (hs:s.size≤1048576) (hb:s.data.toList[a]?=some b):Cl Tryz.prog 186 [vs s,vi a] [] fun r _=>∃(t:Tok) (e:Int) (ok:Bool),r = .tu [(an t.row,false),([.v (.int .i64 e)],true),([.v (.bool ok)],true)]∧ok=(bB s.data.toList a b).isSome∧∀t' e',bB s.data.toList a b=some (t',e')→t=t'∧e=e':=by
 obtain⟨l,hl⟩:∃l,l=s.data.toList:=⟨_,rfl⟩
 have hll:l.length=s.size:=by rw[hl];exact bS s
 rw[←hl] at hb ⊢
 obtain⟨ha,hba⟩:=List.getElem?_eq_some_iff.1 hb
 refine ab aa false Tryz.func186 rfl (by kernel_rfl) ?_
 simp only[Tryz.f186,tt,seval]
 rw[dM hl ha,hba]
 simp only[tt,seval]
 refine cZ (uy b.toNat) (by decide) ?_ ?_<;>simp only[tt,seval]
 cases hP:mo b.toNat||decide ((48:Int)≤(b.toNat:Int)∧(b.toNat:Int)≤57) with
 |true=>
  try simp only[tt,seval,hP]
  have hrl:=nB (B:=l) a
  have hrh:=nC (B:=l) (i:=a) (by omega)
  refine dLoop.intro (fun f' L p=>∃j:Nat,f' 8=vi j∧j≤s.size∧bu l j=bu l a∧L=[(7,.str [.v (.int .i64 0),.v (.string ByteArray.empty),.v (.int .i64 a)]),(4,.str [.v (.int .i64 0),.v (.string ByteArray.empty),.v (.int .i64 0)])]∧p=none) (fun f' _ _=>(s.size-bn (f' 8)).toNat) [(7,.str [.v (.int .i64 0),.v (.string ByteArray.empty),.v (.int .i64 a)]),(4,.str [.v (.int .i64 0),.v (.string ByteArray.empty),.v (.int .i64 0)])] none ⟨SubO.cons rfl (SubO.cons rfl (SubO.nil _)),PoSub.none _,?_⟩ ?_
  ·simp only[tt,seval]
   exact⟨a,rfl,by omega,rfl⟩
  ·rintro g L p ⟨j,h8,hj,he,rfl,rfl⟩
   simp only[tt,seval] at h8
   simp only[tt,seval,h8,Int.ofNat_lt]
   refine fun _=>?_
   by_cases hlt:j<s.size
   ·have hil:j<l.length:=by omega
    simp only[tt,seval,h8,hlt,decide_true]
    rw[dM hl hil]
    simp only[tt,seval,h8]
    refine cZ (uy l[j].toNat) (by decide) ?_ ?_<;>simp only[tt,seval,h8]
    cases hL:mo l[j].toNat||decide ((48:Int)≤(l[j].toNat:Int)∧(l[j].toNat:Int)≤57) with
    |true=>
     simp only[tt,seval,h8,hL]
     rw[ak (n:=(j:Int)+1) (by omega) (by omega)]
     exact⟨[(7,.str [.v (.int .i64 0),.v (.string ByteArray.empty),.v (.int .i64 a)]),(4,.str [.v (.int .i64 0),.v (.string ByteArray.empty),.v (.int .i64 0)])],none,SubO.cons rfl (SubO.cons rfl (SubO.nil _)),PoSub.none _,⟨j+1,rfl,by omega,by rw[oX hil hL,he],rfl,rfl⟩,by simp only[bn];omega⟩
    |false=>
     have ej:j=bu l a:=by rw[←he,vK hil hL]
     subst ej
     simp only[tt,seval,h8,hL]
     have hsz:(bo l a (bu l a)).size≤1048576:=by rw[j3];omega
     refine dDrawn.intro [] (gG [0,2,4,6,8,11,12,15]) (by kernel_rfl) ?_
     simp only[tt,seval]
     all_goals try simp only[tt,seval,h8]
     all_goals rw[ic (by kernel_rfl) (show s.size≤9223372036854775807 by omega) (by omega) (by omega) (by omega),Int.toNat_natCast,Int.toNat_natCast,j2 hl]
     generalize hx:bo l a (bu l a)=x at *
     simp only[tt,seval,h8]
     refine cZ (oD b.toNat) (by decide) ?_ ?_<;>simp only[tt,seval,h8]
     cases hF:decide ((48:Int)≤(b.toNat:Int)∧(b.toNat:Int)≤57) with
     |true=>
      have hF':=of_decide_eq_true hF
      have hL:mo b.toNat=false:=by unfold mo;simp only[Bool.or_eq_false_iff,decide_eq_false_iff_not];omega
      have eF:((48:Int)≤(b.toNat:Int)∧(b.toNat:Int)≤57)=True:=eq_true hF'
      have hraw:dq l a b=some (⟨3,x,a⟩,bu l a):=by
       unfold dq
       simp only[ge,ij,hL,hF,if_true,Bool.false_eq_true,if_false,hx]
      simp only[tt,seval,eF,h8,true_implies,not_true_eq_false,false_implies,and_true]
      refine dDrawn.intro [] (gG [0,2,4,7,9,10,12]) (by kernel_rfl) ?_
      simp only[tt,seval]
      all_goals try simp only[tt,seval,h8]
      all_goals repeat' first|refine kf ?_ ?_|refine eB ?_ ?_
      all_goals
       refine cZ (ed (Tok.mk 3 x a) hsz) (by decide) ?_ ?_<;>simp only[tt,seval,Tok.row,h8]
      all_goals
       cases ho:cj (Tok.mk 3 x a) with
       |true=>
        have e1:bB l a b=some ((Tok.mk 3 x a),bu l a):=dZ hraw ho
        rw[e1]
        refine⟨.tu [(an (Tok.mk 3 x a).row,false),([.v (.int .i64 ((bu l a:Nat):Int))],true),([.v (.bool true)],true)],[],⟨(Tok.mk 3 x a),_,_,rfl,by rfl,fun t' e' h=>by cases h;exact⟨rfl,rfl⟩⟩,aj ?_⟩
        simp only[tt,seval,Tok.row,ho]
       |false=>
        have e1:bB l a b=none:=eT hraw ho
        rw[e1]
        refine⟨.tu [(an (Tok.mk 3 x a).row,false),([.v (.int .i64 ((bu l a:Nat):Int))],true),([.v (.bool false)],true)],[],⟨(Tok.mk 3 x a),_,_,rfl,by rfl,by first|exact fun t' e' h=>by cases h|exact fun _ _ h=>(by cases h)⟩,aj ?_⟩
        simp only[tt,seval,Tok.row,ho]
     |false=>
      have hF':=of_decide_eq_false hF
      have hL:mo b.toNat=true:=by rw[hF,Bool.or_false] at hP;exact hP
      have eF:((48:Int)≤(b.toNat:Int)∧(b.toNat:Int)≤57)=False:=eq_false hF'
      have hraw:dq l a b=some (if nr x=0 then ⟨2,x,a⟩ else ⟨1,cM x,a⟩,bu l a):=by
       unfold dq
       simp only[ge,hL,if_true,hx]
      simp only[tt,seval,eF,h8,false_implies,not_false_eq_true,true_implies,true_and]
      refine cZ (pZ x hsz) (by decide) ?_ ?_<;>simp only[tt,seval,h8]
      by_cases hk:nr x=0
      ·rw[if_pos hk] at hraw
       have ek:(!decide (nr x=0))=false:=by rw[decide_eq_true hk];rfl
       have ek':(¬nr x=0)=False:=eq_false (not_not_intro hk)
       have ek2:(nr x=0)=True:=eq_true hk
       simp only[tt,seval,ek2,h8,not_true_eq_false,false_implies,not_false_eq_true,true_implies,true_and,and_true]
       refine dDrawn.intro [] (gG [0,2,4,7,9,10,12]) (by kernel_rfl) ?_
       simp only[tt,seval]
       all_goals try simp only[tt,seval,h8]
       all_goals repeat' first|refine kf ?_ ?_|refine eB ?_ ?_
       all_goals
        refine cZ (ed (Tok.mk 2 x a) hsz) (by decide) ?_ ?_<;>simp only[tt,seval,Tok.row,h8]
       all_goals
        cases ho:cj (Tok.mk 2 x a) with
        |true=>
         have e1:bB l a b=some ((Tok.mk 2 x a),bu l a):=dZ hraw ho
         rw[e1]
         refine⟨.tu [(an (Tok.mk 2 x a).row,false),([.v (.int .i64 ((bu l a:Nat):Int))],true),([.v (.bool true)],true)],[],⟨(Tok.mk 2 x a),_,_,rfl,by rfl,fun t' e' h=>by cases h;exact⟨rfl,rfl⟩⟩,aj ?_⟩
         simp only[tt,seval,Tok.row,ho]
        |false=>
         have e1:bB l a b=none:=eT hraw ho
         rw[e1]
         refine⟨.tu [(an (Tok.mk 2 x a).row,false),([.v (.int .i64 ((bu l a:Nat):Int))],true),([.v (.bool false)],true)],[],⟨(Tok.mk 2 x a),_,_,rfl,by rfl,by first|exact fun t' e' h=>by cases h|exact fun _ _ h=>(by cases h)⟩,aj ?_⟩
         simp only[tt,seval,Tok.row,ho]
      ·rw[if_neg hk] at hraw
       have ek2:(nr x=0)=False:=eq_false hk
       simp only[tt,seval,ek2,h8,not_true_eq_false,false_implies,not_false_eq_true,true_implies,true_and,and_true]
       refine cZ (pI x hsz) (by decide) ?_ ?_<;>simp only[tt,seval,h8]
       refine dDrawn.intro [] (gG [0,2,4,7,9,10,12]) (by kernel_rfl) ?_
       simp only[tt,seval]
       all_goals try simp only[tt,seval,h8]
       all_goals repeat' first|refine kf ?_ ?_|refine eB ?_ ?_
       all_goals
        refine cZ (ed (Tok.mk 1 (cM x) a) (by show (cM x).size≤_;rw[kq];exact hsz)) (by decide) ?_ ?_<;>simp only[tt,seval,Tok.row,h8]
       all_goals
        cases ho:cj (Tok.mk 1 (cM x) a) with
        |true=>
         have e1:bB l a b=some ((Tok.mk 1 (cM x) a),bu l a):=dZ hraw ho
         rw[e1]
         refine⟨.tu [(an (Tok.mk 1 (cM x) a).row,false),([.v (.int .i64 ((bu l a:Nat):Int))],true),([.v (.bool true)],true)],[],⟨(Tok.mk 1 (cM x) a),_,_,rfl,by rfl,fun t' e' h=>by cases h;exact⟨rfl,rfl⟩⟩,aj ?_⟩
         simp only[tt,seval,Tok.row,ho]
        |false=>
         have e1:bB l a b=none:=eT hraw ho
         rw[e1]
         refine⟨.tu [(an (Tok.mk 1 (cM x) a).row,false),([.v (.int .i64 ((bu l a:Nat):Int))],true),([.v (.bool false)],true)],[],⟨(Tok.mk 1 (cM x) a),_,_,rfl,by rfl,by first|exact fun t' e' h=>by cases h|exact fun _ _ h=>(by cases h)⟩,aj ?_⟩
         simp only[tt,seval,Tok.row,ho]
   ·have ej:j=bu l a:=by rw[←he,sF (by omega)]
    subst ej
    simp only[tt,seval,h8,hlt,decide_false]
    have hsz:(bo l a (bu l a)).size≤1048576:=by rw[j3];omega
    refine dDrawn.intro [] (gG [0,2,4,6,8,11,12,15]) (by kernel_rfl) ?_
    simp only[tt,seval]
    all_goals try simp only[tt,seval,h8]
    all_goals rw[ic (by kernel_rfl) (show s.size≤9223372036854775807 by omega) (by omega) (by omega) (by omega),Int.toNat_natCast,Int.toNat_natCast,j2 hl]
    generalize hx:bo l a (bu l a)=x at *
    simp only[tt,seval,h8]
    refine cZ (oD b.toNat) (by decide) ?_ ?_<;>simp only[tt,seval,h8]
    cases hF:decide ((48:Int)≤(b.toNat:Int)∧(b.toNat:Int)≤57) with
    |true=>
     have hF':=of_decide_eq_true hF
     have hL:mo b.toNat=false:=by unfold mo;simp only[Bool.or_eq_false_iff,decide_eq_false_iff_not];omega
     have eF:((48:Int)≤(b.toNat:Int)∧(b.toNat:Int)≤57)=True:=eq_true hF'
     have hraw:dq l a b=some (⟨3,x,a⟩,bu l a):=by
      unfold dq
      simp only[ge,ij,hL,hF,if_true,Bool.false_eq_true,if_false,hx]
     simp only[tt,seval,eF,h8,true_implies,not_true_eq_false,false_implies,and_true]
     refine dDrawn.intro [] (gG [0,2,4,7,9,10,12]) (by kernel_rfl) ?_
     simp only[tt,seval]
     all_goals try simp only[tt,seval,h8]
     all_goals repeat' first|refine kf ?_ ?_|refine eB ?_ ?_
     all_goals
      refine cZ (ed (Tok.mk 3 x a) hsz) (by decide) ?_ ?_<;>simp only[tt,seval,Tok.row,h8]
     all_goals
      cases ho:cj (Tok.mk 3 x a) with
      |true=>
       have e1:bB l a b=some ((Tok.mk 3 x a),bu l a):=dZ hraw ho
       rw[e1]
       refine⟨.tu [(an (Tok.mk 3 x a).row,false),([.v (.int .i64 ((bu l a:Nat):Int))],true),([.v (.bool true)],true)],[],⟨(Tok.mk 3 x a),_,_,rfl,by rfl,fun t' e' h=>by cases h;exact⟨rfl,rfl⟩⟩,aj ?_⟩
       simp only[tt,seval,Tok.row,ho]
      |false=>
       have e1:bB l a b=none:=eT hraw ho
       rw[e1]
       refine⟨.tu [(an (Tok.mk 3 x a).row,false),([.v (.int .i64 ((bu l a:Nat):Int))],true),([.v (.bool false)],true)],[],⟨(Tok.mk 3 x a),_,_,rfl,by rfl,by first|exact fun t' e' h=>by cases h|exact fun _ _ h=>(by cases h)⟩,aj ?_⟩
       simp only[tt,seval,Tok.row,ho]
    |false=>
     have hF':=of_decide_eq_false hF
     have hL:mo b.toNat=true:=by rw[hF,Bool.or_false] at hP;exact hP
     have eF:((48:Int)≤(b.toNat:Int)∧(b.toNat:Int)≤57)=False:=eq_false hF'
     have hraw:dq l a b=some (if nr x=0 then ⟨2,x,a⟩ else ⟨1,cM x,a⟩,bu l a):=by
      unfold dq
      simp only[ge,hL,if_true,hx]
     simp only[tt,seval,eF,h8,false_implies,not_false_eq_true,true_implies,true_and]
     refine cZ (pZ x hsz) (by decide) ?_ ?_<;>simp only[tt,seval,h8]
     by_cases hk:nr x=0
     ·rw[if_pos hk] at hraw
      have ek:(!decide (nr x=0))=false:=by rw[decide_eq_true hk];rfl
      have ek':(¬nr x=0)=False:=eq_false (not_not_intro hk)
      have ek2:(nr x=0)=True:=eq_true hk
      simp only[tt,seval,ek2,h8,not_true_eq_false,false_implies,not_false_eq_true,true_implies,true_and,and_true]
      refine dDrawn.intro [] (gG [0,2,4,7,9,10,12]) (by kernel_rfl) ?_
      simp only[tt,seval]
      all_goals try simp only[tt,seval,h8]
      all_goals repeat' first|refine kf ?_ ?_|refine eB ?_ ?_
      all_goals
       refine cZ (ed (Tok.mk 2 x a) hsz) (by decide) ?_ ?_<;>simp only[tt,seval,Tok.row,h8]
      all_goals
       cases ho:cj (Tok.mk 2 x a) with
       |true=>
        have e1:bB l a b=some ((Tok.mk 2 x a),bu l a):=dZ hraw ho
        rw[e1]
        refine⟨.tu [(an (Tok.mk 2 x a).row,false),([.v (.int .i64 ((bu l a:Nat):Int))],true),([.v (.bool true)],true)],[],⟨(Tok.mk 2 x a),_,_,rfl,by rfl,fun t' e' h=>by cases h;exact⟨rfl,rfl⟩⟩,aj ?_⟩
        simp only[tt,seval,Tok.row,ho]
       |false=>
        have e1:bB l a b=none:=eT hraw ho
        rw[e1]
        refine⟨.tu [(an (Tok.mk 2 x a).row,false),([.v (.int .i64 ((bu l a:Nat):Int))],true),([.v (.bool false)],true)],[],⟨(Tok.mk 2 x a),_,_,rfl,by rfl,by first|exact fun t' e' h=>by cases h|exact fun _ _ h=>(by cases h)⟩,aj ?_⟩
        simp only[tt,seval,Tok.row,ho]
     ·rw[if_neg hk] at hraw
      have ek2:(nr x=0)=False:=eq_false hk
      simp only[tt,seval,ek2,h8,not_true_eq_false,false_implies,not_false_eq_true,true_implies,true_and,and_true]
      refine cZ (pI x hsz) (by decide) ?_ ?_<;>simp only[tt,seval,h8]
      refine dDrawn.intro [] (gG [0,2,4,7,9,10,12]) (by kernel_rfl) ?_
      simp only[tt,seval]
      all_goals try simp only[tt,seval,h8]
      all_goals repeat' first|refine kf ?_ ?_|refine eB ?_ ?_
      all_goals
       refine cZ (ed (Tok.mk 1 (cM x) a) (by show (cM x).size≤_;rw[kq];exact hsz)) (by decide) ?_ ?_<;>simp only[tt,seval,Tok.row,h8]
      all_goals
       cases ho:cj (Tok.mk 1 (cM x) a) with
       |true=>
        have e1:bB l a b=some ((Tok.mk 1 (cM x) a),bu l a):=dZ hraw ho
        rw[e1]
        refine⟨.tu [(an (Tok.mk 1 (cM x) a).row,false),([.v (.int .i64 ((bu l a:Nat):Int))],true),([.v (.bool true)],true)],[],⟨(Tok.mk 1 (cM x) a),_,_,rfl,by rfl,fun t' e' h=>by cases h;exact⟨rfl,rfl⟩⟩,aj ?_⟩
        simp only[tt,seval,Tok.row,ho]
       |false=>
        have e1:bB l a b=none:=eT hraw ho
        rw[e1]
        refine⟨.tu [(an (Tok.mk 1 (cM x) a).row,false),([.v (.int .i64 ((bu l a:Nat):Int))],true),([.v (.bool false)],true)],[],⟨(Tok.mk 1 (cM x) a),_,_,rfl,by rfl,by first|exact fun t' e' h=>by cases h|exact fun _ _ h=>(by cases h)⟩,aj ?_⟩
        simp only[tt,seval,Tok.row,ho]
 |false=>
  obtain⟨hL,hF⟩:=Bool.or_eq_false_iff.1 hP
  try simp only[tt,seval,hP]
  by_cases hb34:b=34
  ·have d34:decide ((b.toNat:Int)=34)=true:=decide_eq_true (by rw[hb34];rfl)
   have e39:((b.toNat:Int)=39)=False:=eq_false (by rw[hb34];decide)
   simp only[tt,seval,d34]
   have cq:=oh s a b hs (by rw[←hl];exact hb)
   rw[←hl] at cq
   refine cZ (cq) (by decide) ?_ ?_<;>simp only[tt,seval]
   have hqs:=fun x e=>eH (B:=l) (q:=b) (n:=l.length+1) (i:=a+1) (l:=[]) (x:=x) (e:=e)
   cases hq:eu l b (l.length+1) (a+1) [] with
   |none=>
    have hr:dq l a b=none:=by rw[hb34] at hq ⊢;rw[tU,hq];rfl
    have e1:bB l a b=none:=by unfold bB;rw[hr]
    rw[e1]
    simp only[tt,seval,vL,Bool.not_false]
    refine⟨.tu [(an (Tok.mk 0 ⟨#[]⟩ 0).row,false),([.v (.int .i64 0)],true),([.v (.bool false)],true)],[],⟨Tok.mk 0 ⟨#[]⟩ 0,_,_,by first|exact⟨rfl,rfl,fun _ _ h=>by cases h⟩|exact⟨rfl,rfl⟩|rfl⟩,aj ?_⟩
    simp only[tt,seval,Tok.row]
    first|done|rfl
   |some y=>
    obtain⟨x,e⟩:=y
    have hr:dq l a b=some (⟨2,⟨x.toArray⟩,a⟩,e):=by rw[hb34] at hq ⊢;rw[tU,hq];rfl
    have hqs:=hqs x e hq
    simp only[tt,seval,vL,Bool.not_true,Bool.false_eq_true,e39,true_implies,not_true_eq_false,false_implies,and_true,not_false_eq_true,true_and]
    refine dDrawn.intro [] (gG [0,2,4,7,9,10,12]) (by kernel_rfl) ?_
    simp only[tt,seval]
    all_goals repeat' first|refine kf ?_ ?_|refine eB ?_ ?_
    all_goals
     refine cZ (ed (Tok.mk 2 ⟨x.toArray⟩ a) (by show x.length≤_;simp only[List.length_nil] at hqs;omega)) (by decide) ?_ ?_<;>simp only[tt,seval,Tok.row]
    all_goals
     cases ho:cj (Tok.mk 2 ⟨x.toArray⟩ a) with
     |true=>
      have e1:bB l a b=some ((Tok.mk 2 ⟨x.toArray⟩ a),e):=dZ hr ho
      rw[e1]
      refine⟨.tu [(an (Tok.mk 2 ⟨x.toArray⟩ a).row,false),([.v (.int .i64 ((e:Nat):Int))],true),([.v (.bool true)],true)],[],⟨(Tok.mk 2 ⟨x.toArray⟩ a),_,_,rfl,by rfl,fun t' e' h=>by cases h;exact⟨rfl,rfl⟩⟩,aj ?_⟩
      simp only[tt,seval,Tok.row,ho]
     |false=>
      have e1:bB l a b=none:=eT hr ho
      rw[e1]
      refine⟨.tu [(an (Tok.mk 2 ⟨x.toArray⟩ a).row,false),([.v (.int .i64 ((e:Nat):Int))],true),([.v (.bool false)],true)],[],⟨(Tok.mk 2 ⟨x.toArray⟩ a),_,_,rfl,by rfl,by first|exact fun t' e' h=>by cases h|exact fun _ _ h=>(by cases h)⟩,aj ?_⟩
      simp only[tt,seval,Tok.row,ho]
  ·have d34:decide ((b.toNat:Int)=34)=false:=decide_eq_false fun h=>hb34 (UInt8.toNat_inj.1 (by show b.toNat=34;omega))
   by_cases hb39:b=39
   ·have d39:decide ((b.toNat:Int)=39)=true:=decide_eq_true (by rw[hb39];rfl)
    have e39:((b.toNat:Int)=39)=True:=eq_true (by rw[hb39];rfl)
    simp only[tt,seval,d34,d39]
    have cq:=oh s a b hs (by rw[←hl];exact hb)
    rw[←hl] at cq
    refine cZ (cq) (by decide) ?_ ?_<;>simp only[tt,seval]
    have hqs:=fun x e=>eH (B:=l) (q:=b) (n:=l.length+1) (i:=a+1) (l:=[]) (x:=x) (e:=e)
    cases hq:eu l b (l.length+1) (a+1) [] with
    |none=>
     have hr:dq l a b=none:=by rw[hb39] at hq ⊢;rw[tV,hq];rfl
     have e1:bB l a b=none:=by unfold bB;rw[hr]
     rw[e1]
     simp only[tt,seval,vL,Bool.not_false]
     refine⟨.tu [(an (Tok.mk 0 ⟨#[]⟩ 0).row,false),([.v (.int .i64 0)],true),([.v (.bool false)],true)],[],⟨Tok.mk 0 ⟨#[]⟩ 0,_,_,by first|exact⟨rfl,rfl,fun _ _ h=>by cases h⟩|exact⟨rfl,rfl⟩|rfl⟩,aj ?_⟩
     simp only[tt,seval,Tok.row]
     first|done|rfl
    |some y=>
     obtain⟨x,e⟩:=y
     have hr:dq l a b=some (⟨4,⟨x.toArray⟩,a⟩,e):=by rw[hb39] at hq ⊢;rw[tV,hq];rfl
     have hqs:=hqs x e hq
     simp only[tt,seval,vL,Bool.not_true,Bool.false_eq_true,e39,true_implies,not_true_eq_false,false_implies,and_true,not_false_eq_true,true_and]
     refine dDrawn.intro [] (gG [0,2,4,7,9,10,12]) (by kernel_rfl) ?_
     simp only[tt,seval]
     all_goals repeat' first|refine kf ?_ ?_|refine eB ?_ ?_
     all_goals
      refine cZ (ed (Tok.mk 4 ⟨x.toArray⟩ a) (by show x.length≤_;simp only[List.length_nil] at hqs;omega)) (by decide) ?_ ?_<;>simp only[tt,seval,Tok.row]
     all_goals
      cases ho:cj (Tok.mk 4 ⟨x.toArray⟩ a) with
      |true=>
       have e1:bB l a b=some ((Tok.mk 4 ⟨x.toArray⟩ a),e):=dZ hr ho
       rw[e1]
       refine⟨.tu [(an (Tok.mk 4 ⟨x.toArray⟩ a).row,false),([.v (.int .i64 ((e:Nat):Int))],true),([.v (.bool true)],true)],[],⟨(Tok.mk 4 ⟨x.toArray⟩ a),_,_,rfl,by rfl,fun t' e' h=>by cases h;exact⟨rfl,rfl⟩⟩,aj ?_⟩
       simp only[tt,seval,Tok.row,ho]
      |false=>
       have e1:bB l a b=none:=eT hr ho
       rw[e1]
       refine⟨.tu [(an (Tok.mk 4 ⟨x.toArray⟩ a).row,false),([.v (.int .i64 ((e:Nat):Int))],true),([.v (.bool false)],true)],[],⟨(Tok.mk 4 ⟨x.toArray⟩ a),_,_,rfl,by rfl,by first|exact fun t' e' h=>by cases h|exact fun _ _ h=>(by cases h)⟩,aj ?_⟩
       simp only[tt,seval,Tok.row,ho]
   ·have d39:decide ((b.toNat:Int)=39)=false:=decide_eq_false fun h=>hb39 (UInt8.toNat_inj.1 (by show b.toNat=39;omega))
    have hraw:dq l a b=some (⟨5,bo l a (ee l a),a⟩,ee l a):=by
     unfold dq
     simp only[ge,ij,hL,hF,hb34,hb39,Bool.false_eq_true,if_false]
    simp only[tt,seval,d34,d39,Bool.false_eq_true]
    refine cZ (xK) (by decide) ?_ ?_<;>simp only[tt,seval]
    refine dLoop.intro (fun f' L p=>∃(i:Nat) (t:ByteArray),f' 24=vi i∧i≤16∧BestI (signs.take i) (l.drop a) t∧L=[(7,.str [.v (.int .i64 5),.v (.string t),.v (.int .i64 a)]),(4,.str [.v (.int .i64 0),.v (.string ByteArray.empty),.v (.int .i64 0)])]∧p=none) (fun f' _ _=>(16-bn (f' 24)).toNat) [(7,.str [.v (.int .i64 5),.v (.string ByteArray.empty),.v (.int .i64 a)]),(4,.str [.v (.int .i64 0),.v (.string ByteArray.empty),.v (.int .i64 0)])] none ⟨SubO.cons rfl (SubO.cons rfl (SubO.nil _)),PoSub.none _,?_⟩ ?_
    ·simp only[tt,seval]
     exact⟨0,ByteArray.empty,rfl,by omega,BestI.nil _,rfl⟩
    ·rintro g L p ⟨i,t,h24,hi,hbest,rfl,rfl⟩
     simp only[tt,seval] at h24
     have ht20:t.size≤2:=by
      rcases hbest.got with rfl|⟨h1,_⟩
      ·exact Nat.zero_le _
      ·exact (kI _ (List.mem_of_mem_take h1)).2
     have i16:((16:Nat):Int)=16:=rfl
     simp only[tt,seval,h24]
     by_cases hlt:i<16
     ·have hls:i<signs.length:=hlt
      have c1:((i:Int)<16)=True:=eq_true (by omega)
      have hst:signs.take (i+1)=signs.take i++[signs[i]]:=List.take_succ_eq_append_getElem hls
      have hx:signs[i]?=some signs[i]:=List.getElem?_eq_getElem hls
      have hsz:=kI _ (List.getElem_mem hls)
      simp only[tt,seval,h24,c1,true_implies,not_true_eq_false,false_implies,and_true]
      refine⟨by omega,_,ax dB hx,jc _ _,?_⟩
      generalize signs[i]=sg at *
      simp only[tt,seval,h24,gO,srow]
      rw[nY (by kernel_rfl) (show s.size≤9223372036854775807 by omega) (by omega) (by omega),Int.toNat_natCast,tW hl]
      simp only[tt,seval,h24]
      have cp:=lK ⟨(l.drop a).toArray⟩ sg
      have epx:Lib.hasPrefix (⟨(l.drop a).toArray⟩:ByteArray).data.toList sg.data.toList=sg.data.toList.isPrefixOf (l.drop a):=rfl
      rw[epx] at cp
      refine cZ (cp) (by decide) ?_ ?_<;>simp only[tt,seval,h24]
      cases hpx:sg.data.toList.isPrefixOf (l.drop a) with
      |true=>
       have hpx':=List.isPrefixOf_iff_prefix.1 hpx
       simp only[tt,seval,h24,hpx]
       refine fun _ _=>And.intro (fun h=>?_) (fun h=>?_)
       ·rw[eE i (by omega)]
        exact⟨[(7,.str [.v (.int .i64 5),.v (.string sg),.v (.int .i64 a)]),(4,.str [.v (.int .i64 0),.v (.string ByteArray.empty),.v (.int .i64 0)])],none,SubO.cons rfl (SubO.cons rfl (SubO.nil _)),PoSub.none _,⟨i+1,sg,rfl,by omega,by rw[hst];exact hbest.yes hpx' (by omega),rfl,rfl⟩,by simp only[bn];omega⟩
       ·rw[eE i (by omega)]
        exact⟨[(7,.str [.v (.int .i64 5),.v (.string t),.v (.int .i64 a)]),(4,.str [.v (.int .i64 0),.v (.string ByteArray.empty),.v (.int .i64 0)])],none,SubO.cons rfl (SubO.cons rfl (SubO.nil _)),PoSub.none _,⟨i+1,t,rfl,by omega,by rw[hst];exact hbest.no fun _=>by omega,rfl,rfl⟩,by simp only[bn];omega⟩
      |false=>
       have hpx':¬sg.data.toList <+: l.drop a:=fun h=>by rw[List.isPrefixOf_iff_prefix.2 h] at hpx;cases hpx
       simp only[tt,seval,h24,hpx,Bool.false_eq_true]
       rw[eE i (by omega)]
       exact⟨[(7,.str [.v (.int .i64 5),.v (.string t),.v (.int .i64 a)]),(4,.str [.v (.int .i64 0),.v (.string ByteArray.empty),.v (.int .i64 0)])],none,SubO.cons rfl (SubO.cons rfl (SubO.nil _)),PoSub.none _,⟨i+1,t,rfl,by omega,by rw[hst];exact hbest.no fun h=>absurd h hpx',rfl,rfl⟩,by simp only[bn];omega⟩
     ·have hi16:i=16:=by omega
      subst hi16
      have c1:(((16:Nat):Int)<16)=False:=eq_false (by omega)
      have hbest:BestI signs (l.drop a) t:=hbest
      simp only[tt,seval,h24,c1,false_implies,not_false_eq_true,true_implies,true_and]
      refine fun _=>?_
      rw[ak (n:=(a:Int)+t.size) (by omega) (by omega)]
      refine dDrawn.intro [] (gG [0,2,4,7,9,10,12]) (by kernel_rfl) ?_
      simp only[tt,seval]
      all_goals try simp only[tt,seval,h24]
      all_goals repeat' first|refine kf ?_ ?_|refine eB ?_ ?_
      all_goals
       refine cZ (ed (Tok.mk 5 t a) (by show t.size≤_;omega)) (by decide) ?_ ?_<;>simp only[tt,seval,Tok.row,h24]
      all_goals
       rcases zN ha hbest with⟨ht,hte⟩|⟨ht,hte⟩
       ·cases ho:cj (Tok.mk 5 t a) with
        |true=>
         have e1:bB l a b=some (Tok.mk 5 t a,ee l a):=dZ (by rw[ht];exact hraw) ho
         rw[e1]
         refine⟨.tu [(an (Tok.mk 5 t a).row,false),([.v (.int .i64 (ee l a:Nat))],true),([.v (.bool true)],true)],[],⟨Tok.mk 5 t a,_,_,rfl,by rfl,fun t' e' h=>by cases h;exact⟨rfl,rfl⟩⟩,aj ?_⟩
         simp only[tt,seval,Tok.row,ho]
         omega
        |false=>
         have e1:bB l a b=none:=eT hraw (by rw[←ht];exact ho)
         rw[e1]
         refine⟨.tu [(an (Tok.mk 5 t a).row,false),([.v (.int .i64 ((a:Int)+t.size))],true),([.v (.bool false)],true)],[],⟨Tok.mk 5 t a,_,_,rfl,by rfl,by first|exact fun t' e' h=>by cases h|exact fun _ _ h=>(by cases h)⟩,aj ?_⟩
         simp only[tt,seval,Tok.row,ho]
       ·have ho:cj (Tok.mk 5 t a)=false:=ht
        have e1:bB l a b=none:=eT hraw hte
        rw[e1]
        refine⟨.tu [(an (Tok.mk 5 t a).row,false),([.v (.int .i64 ((a:Int)+t.size))],true),([.v (.bool false)],true)],[],⟨Tok.mk 5 t a,_,_,rfl,by rfl,by first|exact fun t' e' h=>by cases h|exact fun _ _ h=>(by cases h)⟩,aj ?_⟩
        simp only[tt,seval,Tok.row,ho]
set_option maxHeartbeats 4000000 in
theorem oY (s:ByteArray) (hs:s.size≤1048576):Cl Tryz.prog 123 [vs s] [] fun r _=>r = .tu [([.sl (l7 (gi s)).1.length ((l7 (gi s)).1.flatMap Tok.row) none],true),([.v (.int .i64 (l7 (gi s)).2)],true)]:=by
 obtain⟨l,hl⟩:∃l,l=s.data.toList:=⟨_,rfl⟩
 have hll:l.length=s.size:=by rw[hl];exact bS s
 obtain⟨rr,hrr⟩:=pJ (B:=l) (l.length+1) 0 [] (by omega) (by omega)
 refine ab aa false Tryz.func123 rfl (by kernel_rfl) ?_
 simp only[Tryz.f123,tt,seval]
 refine fun _=>And.intro (fun hg=>?_) (fun hg=>?_)
 ·have e:gi s = .inr 2000:=by unfold gi;rw[if_pos (by omega)]
  rw[e]
  refine⟨.tu [([.sl 0 [] none],true),([.v (.int .i64 2000)],true)],[],rfl,aj ?_⟩
  simp only[tt,seval]
 have e:gi s=rr:=by unfold gi;rw[if_neg (by omega),←hl,hrr];rfl
 rw[e]
 refine dLoop.gh [.ren 14 42] ⟨by decide,by decide,?_⟩
 refine dLoop0.intro (fun f' L p=>∃(i n:Nat) (m:List Tok),f' 5=vi i∧f' 4 = .c (.s 42 m.length)∧i≤s.size∧m.length≤i∧ro l n i m=some rr∧l.length+1≤n+i∧L=[(42,.arr 76 m.length (m.flatMap Tok.row) none)]∧p=none) (fun f' _ _=>(s.size-bn (f' 5)).toNat) [(42,.arr 76 0 [] none)] none ⟨SubO.cons rfl (SubO.nil _),PoSub.none _,?_⟩ ?_
 ·simp only[tt,seval]
  exact⟨0,l.length+1,[],rfl,rfl,by omega,by simp,hrr,by omega,rfl⟩
 ·rintro g L p ⟨i,n,m,h5,h4,hi,hml,he,hn,rfl,rfl⟩
  simp only[tt,seval] at h5 h4
  cases n with
  |zero=>exact absurd hn (by omega)
  |succ n=>
  rw[ro] at he
  obtain⟨q,okb,hp,hiq,hqs⟩:=fT (B:=l) (l.length+1) i (by omega) (by omega)
  rw[hp] at he
  simp only at he
  have cp:=E0 s i hs hi
  rw[←hl,hp] at cp
  simp only[tt,seval,h5,h4]
  refine cZ (cp) (by decide) ?_ ?_<;>simp only[tt,seval,h5,h4,Ey]
  cases okb with
  |false=>
   rw[if_pos rfl] at he
   injection he with he;subst he
   simp only[tt,seval,Bool.not_false]
   refine⟨.tu [([.sl 0 [] none],true),([.v (.int .i64 (q:Nat))],true)],[],rfl,aj ?_⟩
   simp only[tt,seval]
  |true=>
   rw[if_neg (by simp)] at he
   simp only[tt,seval,h4,h5,Bool.not_true,Bool.false_eq_true,not_false_eq_true,true_implies,false_implies,true_and]
   refine fun _=>?_
   by_cases hqe:s.size≤q
   ·have hq1:((q:Int)=(s.size:Int))=True:=eq_true (by omega)
    have hq2:(q=s.size)=True:=eq_true (by omega)
    rw[List.getElem?_eq_none_iff.2 (by omega)] at he
    simp only at he
    injection he with he;subst he
    simp only[tt,seval,h4,h5,hq1,hq2,true_implies,not_true_eq_false,false_implies,and_true]
    refine⟨.tu [([.sl m.length (m.flatMap Tok.row) none],true),([.v (.int .i64 (-1))],true)],[],rfl,aj ?_⟩
    simp only[tt,seval]
   ·have hq1:((q:Int)=(s.size:Int))=False:=eq_false (by omega)
    have hq2:(q=s.size)=False:=eq_false (by omega)
    have hql:q<l.length:=by omega
    have hb:l[q]?=some l[q]:=List.getElem?_eq_getElem hql
    rw[hb] at he
    simp only at he
    have co:=vM s q l[q] hs (by rw[←hl];exact hb)
    rw[←hl] at co
    have osp:=fun t e=>kA (e:=e) (t:=t) hb
    generalize l[q]=b at *
    simp only[tt,seval,h4,h5,hq1,hq2,not_false_eq_true,true_implies,false_implies,true_and]
    cases ho:bB l q b with
    |none=>
     rw[ho] at he co
     simp only at he
     injection he with he;subst he
     refine fc (co) ?_ ?_ ?_
     ·decide
     ·simp only[tt,seval,h4,h5,Tok.row,Option.isSome_none,Bool.not_false]
     rintro r ⟨t,e2,ok2,rfl,rfl,_⟩
     simp only[tt,seval,h4,h5,Tok.row,Option.isSome_none,Bool.not_false]
     refine⟨.tu [([.sl 0 [] none],true),([.v (.int .i64 (q:Nat))],true)],[],rfl,aj ?_⟩
     simp only[tt,seval]
    |some y=>
     obtain⟨t,e⟩:=y
     rw[ho] at he co
     simp only at he
     obtain⟨he1,he2,_⟩:=osp t e ho
     refine fc (co) ?_ ?_ ?_
     ·decide
     ·simp only[tt,seval,h4,h5,Tok.row,Option.isSome_some,Bool.not_true,Bool.false_eq_true]
     rintro r ⟨t',e2,ok2,rfl,rfl,ht⟩
     simp only[tt,seval,h4,h5,Tok.row,Option.isSome_some,Bool.not_true,Bool.false_eq_true]
     obtain⟨rfl,rfl⟩:=ht t e rfl
     refine⟨by kernel_rfl,⟨by simp only[maxLen];omega,by omega⟩,?_⟩
     refine⟨[(42,.arr 76 (m++[t']).length ((m++[t']).flatMap Tok.row) none)],none,by simp only[List.flatMap_append,List.length_append,List.flatMap_cons,List.flatMap_nil,List.append_nil,Tok.row];exact SubO.cons rfl (SubO.nil _),PoSub.none _,⟨e,n,m++[t'],rfl,by simp,by omega,by simp;omega,he,by omega,rfl,rfl⟩,by simp only[bn];omega⟩
end Go.Proofs.YteffjmaadkkmeaaGreatDoor
