/-
  The lexers.
  Conditions: none.
-/
import Derived.Test.YtbodcedhmccenaaGreatDoorSB1
import Derived.Shelf.Strings.Search3
import Derived.Shelf.Strings.Prefix
import Derived.Shelf.Small.Strs
import Derived.Test.YtbodcedhmccenaaGreatDoorProg
set_option linter.unusedVariables false
set_option linter.unusedSimpArgs false
set_option linter.unusedSectionVars false
set_option maxRecDepth 8000
namespace Go.Proofs.YtbodcedhmccenaaGreatDoor
open Go Go.Dv
open Go.Vc (D d5 d6 cM bo)
theorem ij {s:ByteArray} {l:List UInt8} (hl:l=s.data.toList) (i j:Nat):s.extract i j=aZ l i j:=by
 subst hl
 apply ByteArray.ext
 rw[ByteArray.data_extract]
 unfold aZ
 apply Array.ext'
 simp [List.extract_eq_take_drop]
theorem oe {l:List UInt8} {i:Nat} (hi:i<l.length) (h:(fu l[i]||gz l[i])=true):bf l (i+1)=bf l i:=by
 rw[jG i,az hi]
 simp only[h,if_true]
theorem vg {l:List UInt8} {i:Nat} (hi:i<l.length) (h:(fu l[i]||gz l[i])=false):bf l i=i:=by
 rw[jG i,az hi]
 simp [h]
theorem rY {l:List UInt8} {i:Nat} (hi:l.length<=i):bf l i=i:=by
 rw[jG i,List.getElem?_eq_none_iff.2 hi]
theorem y4 (s:ByteArray) (i:Nat) (hs:s.size<=1048576) (hi:i<=s.size):Cl Tryz.prog 246 [vs s,vi i] [] fun r _=>r=vi (bf s.data.toList i:Nat):=by
 obtain⟨l,hl⟩:∃l,l=s.data.toList:=⟨_,rfl⟩
 have hll:l.length=s.size:=by rw[hl];exact aD s
 rw[<-hl]
 refine ah ab false Tryz.func246 rfl (by kernel_rfl) ?_
 simp only[Tryz.f246,tt,seval]
 refine dLoop.intro (fun f' L p=>∃j:Nat,f' 1=vi j/\j<=s.size/\bf l j=bf l i/\L=[]/\p=none) (fun f' _ _=>(s.size-bq (f' 1)).toNat) [] none ⟨al _,an _,?_⟩ ?_
 ·simp only[tt,seval]
  exact⟨i,rfl,hi,rfl⟩
 ·rintro g L p ⟨j,h1,hj,he,rfl,rfl⟩
  simp only[tt,seval] at h1
  simp only[tt,seval,h1,Int.ofNat_lt]
  by_cases hlt:j<s.size
  ·have hil:j<l.length:=by omega
   simp only[tt,seval,h1,hlt]
   rw[cv hl hil]
   simp only[tt,seval]
   refine fun _=>?_
   refine cZ (lV l[j].toNat) ?_ ?_<;>simp only[tt,seval]
   cases hL:ki l[j].toNat with
   |true=>
    simp only[tt,seval,h1]
    rw[aq (n:=(j:Int)+1) (by omega) (by omega)]
    exact⟨[],none,al _,an _,⟨j+1,rfl,by omega,by rw[oe hil (by simp [fu,hL]),he],rfl,rfl⟩,by simp only[bq];omega⟩
   |false=>
    simp only[tt,seval,h1]
    rw[cv hl hil]
    simp only[tt,seval]
    refine cZ (jA l[j].toNat) ?_ ?_<;>simp only[tt,seval,h1]
    cases hF:decide ((48:Int)<=(l[j].toNat:Int)/\(l[j].toNat:Int)<=57) with
    |true=>
     have hF:=of_decide_eq_true hF
     rw[aq (n:=(j:Int)+1) (by omega) (by omega)]
     refine aa (fun _=>?_) (fun h=>absurd hF h)
     exact⟨[],none,al _,an _,⟨j+1,rfl,by omega,by rw[oe hil (by simp only[gz,av hF,Bool.or_true]),he],rfl,rfl⟩,by simp only[bq];omega⟩
    |false=>
     have hF':=of_decide_eq_false hF
     refine aa (fun h=>absurd h hF') (fun _=>?_)
     refine⟨_,_,kh ?_,ak rfl⟩
     rw[<-he,vg hil (by simp only[fu,gz,hL,hF,Bool.or_false])]
  ·simp only[tt,seval,h1,hlt]
   refine fun _=>⟨_,_,kh ?_,ak rfl⟩
   rw[<-he,rY (by omega)]
def Bz:Option (List UInt8×Nat)->S
 |some (x,e)=>.tu [([.v (.string ⟨x.toArray⟩)],true),([.v (.int .i64 (e:Nat))],true)]
 |none=>.tu [([.v (.string ⟨#[]⟩)],true),([.v (.int .i64 (-1))],true)]
theorem qv (s:ByteArray) (a:Nat) (q:UInt8) (hs:s.size<=1048576) (hq:s.data.toList[a]?=some q):Cl Tryz.prog 249 [vs s,vi a] [] fun r _=>r=Bz (dv s.data.toList q (s.data.toList.length+1) (a+1) []):=by
 obtain⟨l,hl⟩:∃l,l=s.data.toList:=⟨_,rfl⟩
 have hll:l.length=s.size:=by rw[hl];exact aD s
 rw[<-hl] at hq ⊢
 obtain⟨ha,hqa⟩:=List.getElem?_eq_some_iff.1 hq
 refine ah ab false Tryz.func249 rfl (by kernel_rfl) ?_
 simp only[Tryz.f249,tt,seval]
 rw[cv hl ha,hqa]
 simp only[tt,seval]
 rw[aq (n:=(a:Int)+1) (by omega) (by omega)]
 refine dLoop.gh [.ren 12 52] ⟨by decide,by decide,?_⟩
 refine dLoop0.introR (fun f' L p=>∃(i n:Nat) (bs:List UInt8),f' 8=vi i/\f' 7 = .c (.s 52 bs.length)/\i<=s.size/\bs.length<=i/\dv l q n i bs=dv l q (l.length+1) (a+1) []/\l.length+1<=n+i/\L=[(52,.arr 5 bs.length (aX bs) none)]/\p=none) (fun f' _ _=>(s.size-bq (f' 8)).toNat) [(52,.arr 5 0 (aX []) none)] none ⟨ac rfl (al _),an _,?_⟩ ?_
 ·simp only[tt,seval]
  exact⟨a+1,l.length+1,[],rfl,rfl,by omega,by simp,rfl,by omega,rfl⟩
 ·rintro g L p ⟨i,n,bs,h8,h7,hi,hbl,he,hn,rfl,rfl⟩
  simp only[tt,seval] at h8 h7
  simp only[tt,seval,h8,Int.ofNat_lt]
  cases n with
  |zero=>exact absurd hn (by omega)
  |succ n=>
  rw[dv] at he
  refine fun _=>aa (fun hlt=>?_) (fun hge=>?_)
  ·have hil:i<l.length:=by omega
   rw[az hil] at he
   simp only at he
   rw[cv hl hil]
   simp only[tt,seval,h8,h7]
   refine aa (fun hne=>?_) (fun heq=>?_)
   ·have hc:¬l[i]=q:=fun e=>by rw[e] at hne;simp at hne
    rw[if_neg hc] at he
    rw[cv hl hil]
    simp only[tt,seval,h8]
    refine⟨by kernel_rfl,⟨by simp only[maxLen];omega,by omega⟩,?_⟩
    rw[dE,aq (n:=(i:Int)+1) (by omega) (by omega)]
    refine⟨[.ren 31 52],by decide,by decide,?_⟩
    simp only[tt,seval]
    refine⟨[(52,.arr 5 (bs++[l[i]]).length (aX (bs++[l[i]])) none)],none,ac (by simp [Go.Dv.look]) (al _),an _,⟨i+1,n,bs++[l[i]],by simp only[tt,seval];rfl,by simp only[tt,seval,aB],by omega,by simp;omega,he,by omega,rfl,rfl⟩,by simp only[tt,seval,bq];omega⟩
   ·have hc:l[i]=q:=UInt8.toNat_inj.1 (by simp at heq;omega)
    rw[if_pos hc] at he
    have ew:IntKind.i64.wrap ((i:Int)+1)=((i+1:Nat):Int):=by rw[aq (by omega) (by omega)];omega
    have ex:bs.length<=9223372036854775807:=by omega
    rw[ew]
    by_cases hi1:i+1<l.length
    ·have g1:decide ((s.size:Int)<=((i+1:Nat):Int))=false:=au (by omega)
     rw[az hi1] at he
     simp only[tt,seval,h8,g1,ew]
     refine fun _=>?_
     rw[cv hl hi1]
     simp only[tt,seval,h8,h7]
     refine aa (fun hne=>?_) (fun heq=>?_)
     ·have hd:¬l[i+1]=q:=fun e=>by rw[e] at hne;simp at hne
      rw[if_neg (by simpa using hd)] at he
      refine⟨by kernel_rfl,by simp only[maxLen];omega,bs,rfl,rfl,?_⟩
      simp only[tt,seval,h8,ew]
      rw[<-he]
      exact⟨_,_,rfl,ak rfl⟩
     ·have hd:l[i+1]=q:=UInt8.toNat_inj.1 (by simp at heq;omega)
      rw[if_pos (by rw[hd])] at he
      refine⟨by kernel_rfl,⟨by simp only[maxLen];omega,by omega⟩,?_⟩
      rw[dE,ew,aq (n:=((i+1:Nat):Int)+1) (by omega) (by omega)]
      refine⟨[],?_⟩
      refine⟨[(52,.arr 5 (bs++[q]).length (aX (bs++[q])) none)],none,ac (by simp [Go.Dv.look]) (al _),an _,⟨i+2,n,bs++[q],by simp only[tt,seval];exact kh (by omega),by simp only[tt,seval,aB],by omega,by simp;omega,he,by omega,rfl,rfl⟩,by simp only[tt,seval,bq];omega⟩
    ·have g1:decide ((s.size:Int)<=((i+1:Nat):Int))=true:=av (by omega)
     rw[List.getElem?_eq_none_iff.2 (by omega),if_neg (by simp)] at he
     simp only[tt,seval,h8,h7,g1,ew]
     refine fun _=>⟨by kernel_rfl,by simp only[maxLen];omega,bs,rfl,rfl,?_⟩
     simp only[tt,seval,h8,ew]
     rw[<-he]
     exact⟨_,_,rfl,ak rfl⟩
  ·have:i=s.size:=by omega
   subst this
   rw[List.getElem?_eq_none_iff.2 (by omega)] at he
   simp only at he
   rw[<-he]
   exact⟨_,_,rfl,ak rfl⟩
theorem kJ (b:UInt8):uj b=true↔((b.toNat:Int)=32∨(b.toNat:Int)=9∨(b.toNat:Int)=10∨(b.toNat:Int)=13):=by
 unfold uj
 simp only[Bool.or_eq_true,beq_iff_eq,<-UInt8.toNat_inj]
 have e1:(32:UInt8).toNat=32:=rfl
 have e2:(9:UInt8).toNat=9:=rfl
 have e3:(10:UInt8).toNat=10:=rfl
 have e4:(13:UInt8).toNat=13:=rfl
 rw[e1,e2,e3,e4]
 omega
theorem zw {l:List UInt8} {i:Nat} {a b:UInt8} (hi:i<=l.length):aZ l i (min l.length (i+2))=⟨#[a,b]⟩↔l[i]?=some a/\l[i+1]?=some b:=by
 have h0:l[i]?=(l.drop i)[0]?:=by simp [List.getElem?_drop]
 have h1:l[i+1]?=(l.drop i)[1]?:=by simp [List.getElem?_drop]
 have ht:(l.drop i).take (min l.length (i+2)-i)=(l.drop i).take 2:=List.take_eq_take_iff.2 (by rw[List.length_drop];omega)
 unfold aZ
 rw[ht,h0,h1]
 generalize l.drop i=m
 match m with
 | []=>simp
 | [x]=>simp
 |x::y::r=>simp
theorem y6 (a b:Int):Cl Tryz.prog 244 [vi a,vi b] [] fun r _=>r=vi (if a<b then a else b):=by
 refine ah ab false Tryz.func244 rfl (by kernel_rfl) ?_
 simp only[Tryz.f244,tt,seval]
 refine aa (fun h=>?_) (fun h=>?_)
 ·exact⟨_,_,kh (by rw[if_pos h]),ak rfl⟩
 ·exact⟨_,_,kh (by rw[if_neg h]),ak rfl⟩
def E7:Option (Nat×Bool)->Int
 |some (p,true)=>p
 |some (p,false)=>-(p:Int)-1
 |none=>0
set_option maxHeartbeats 2000000 in
theorem BA (s:ByteArray) (a:Nat) (hs:s.size<=1048576) (ha:a<=s.size):Cl Tryz.prog 147 [vs s,vi a] [] fun r _=>r=vi (E7 (fv s.data.toList (s.data.toList.length+1) a)):=by
 obtain⟨l,hl⟩:∃l,l=s.data.toList:=⟨_,rfl⟩
 have hll:l.length=s.size:=by rw[hl];exact aD s
 rw[<-hl]
 refine ah ab false Tryz.func147 rfl (by kernel_rfl) ?_
 simp only[Tryz.f147,tt,seval]
 refine dLoop.intro (fun f' L p=>∃(j n:Nat),f' 1=vi j/\j<=s.size/\fv l n j=fv l (l.length+1) a/\l.length+1<=n+j/\L=[]/\p=none) (fun f' _ _=>(s.size-bq (f' 1)).toNat) [] none ⟨al _,an _,?_⟩ ?_
 ·simp only[tt,seval]
  exact⟨a,l.length+1,rfl,ha,rfl,by omega⟩
 ·rintro g L p ⟨j,n,h1,hj,he,hn,rfl,rfl⟩
  simp only[tt,seval] at h1
  cases n with
  |zero=>exact absurd hn (by omega)
  |succ n=>
  rw[fv] at he
  simp only[tt,seval,h1,Int.ofNat_lt]
  refine fun _=>aa (fun hlt=>?_) (fun hge=>?_)
  ·have hil:j<l.length:=by omega
   rw[az hil] at he
   simp only at he
   rw[aq (n:=(j:Int)+2) (by omega) (by omega)]
   have em:(if (s.size:Int)<(j:Int)+2 then (s.size:Int) else (j:Int)+2)=((min l.length (j+2):Nat):Int):=by split<;>omega
   refine fun _=>?_
   refine cZ (y6 s.size (j+2)) ?_ ?_<;>simp only[tt,seval]
   rw[em,gw (by kernel_rfl) (show s.size<=9223372036854775807 by omega) (by omega) (by omega) (by omega),Int.toNat_natCast,Int.toNat_natCast,ij hl]
   simp only[tt,seval,h1]
   cases h32:decide ((l[j].toNat:Int)=32) with
   |true=>
    rw[cv hl hil]
    simp only[tt,seval,h1,h32]
    rw[aq (n:=(j:Int)+1) (by omega) (by omega)]
    rw[if_pos ((kJ _).2 (by have:=of_decide_eq_true h32;omega))] at he
    exact⟨[],none,al _,an _,⟨j+1,n,rfl,by omega,he,by omega,rfl,rfl⟩,by simp only[bq];omega⟩
   |false=>
    rw[cv hl hil]
    simp only[tt,seval,h1,h32]
    cases h9:decide ((l[j].toNat:Int)=9) with
    |true=>
     rw[cv hl hil]
     simp only[tt,seval,h1,h9]
     rw[aq (n:=(j:Int)+1) (by omega) (by omega)]
     rw[if_pos ((kJ _).2 (by have:=of_decide_eq_true h9;omega))] at he
     exact⟨[],none,al _,an _,⟨j+1,n,rfl,by omega,he,by omega,rfl,rfl⟩,by simp only[bq];omega⟩
    |false=>
     rw[cv hl hil]
     simp only[tt,seval,h1,h9]
     cases h10:decide ((l[j].toNat:Int)=10) with
     |true=>
      rw[cv hl hil]
      simp only[tt,seval,h1,h10]
      rw[aq (n:=(j:Int)+1) (by omega) (by omega)]
      rw[if_pos ((kJ _).2 (by have:=of_decide_eq_true h10;omega))] at he
      exact⟨[],none,al _,an _,⟨j+1,n,rfl,by omega,he,by omega,rfl,rfl⟩,by simp only[bq];omega⟩
     |false=>
      rw[cv hl hil]
      simp only[tt,seval,h1,h10]
      cases h13:decide ((l[j].toNat:Int)=13) with
      |true=>
       rw[cv hl hil]
       simp only[tt,seval,h1,h13]
       rw[aq (n:=(j:Int)+1) (by omega) (by omega)]
       rw[if_pos ((kJ _).2 (by have:=of_decide_eq_true h13;omega))] at he
       exact⟨[],none,al _,an _,⟨j+1,n,rfl,by omega,he,by omega,rfl,rfl⟩,by simp only[bq];omega⟩
      |false=>
       rw[cv hl hil]
       simp only[tt,seval,h1,h13]
       have hw:¬uj l[j]=true:=fun h=>by
        have e1:=of_decide_eq_false h32
        have e2:=of_decide_eq_false h9
        have e3:=of_decide_eq_false h10
        have e4:=of_decide_eq_false h13
        have:=(kJ _).1 h
        omega
       rw[if_neg hw] at he
       by_cases hd:l[j]=45/\l[j+1]?=some 45
       ·have e2:(aZ l j (min l.length (j+2))=⟨#[45,45]⟩)=True:=eq_true ((zw (by omega)).2 ⟨by rw[az hil,hd.1],hd.2⟩)
        rw[if_pos hd] at he
        have hne:¬l[j]=10:=by rw[hd.1];decide
        have eol:=eY (B:=l) j
        rw[az hil] at eol
        simp only[hne,if_false] at eol
        have gol:=mH (B:=l) (j+1)
        simp only[tt,seval,e2]
        refine dLoop.intro (fun f' L p=>∃k:Nat,f' 1=vi k/\k<=s.size/\da l k=da l j/\L=[]/\p=none) (fun f' _ _=>(s.size-bq (f' 1)).toNat) [] none ⟨al _,an _,?_⟩ ?_
        ·simp only[tt,seval,h1]
         exact⟨j,rfl,hj,rfl⟩
        ·rintro g2 L p ⟨k,h1',hk,hke,rfl,rfl⟩
         simp only[tt,seval] at h1'
         simp only[tt,seval,h1',Int.ofNat_lt]
         have st:=eY (B:=l) k
         by_cases hkl:k<s.size
         ·have hkl':k<l.length:=by omega
          rw[az hkl'] at st
          simp only at st
          simp only[tt,seval,h1',hkl]
          rw[cv hl hkl']
          simp only[tt,seval,h1']
          refine fun _=>aa (fun h=>?_) (fun h=>?_)
          ·have hb:¬l[k]=10:=fun e=>by rw[e] at h;simp at h
           rw[if_neg hb] at st
           rw[aq (n:=(k:Int)+1) (by omega) (by omega)]
           exact⟨[],none,al _,an _,⟨k+1,rfl,by omega,by rw[<-st,hke],rfl,rfl⟩,by simp only[bq];omega⟩
          ·have hb:l[k]=10:=UInt8.toNat_inj.1 (by simp at h;show l[k].toNat=10;omega)
           rw[if_pos hb] at st
           exact⟨[],none,al _,an _,⟨k,n,rfl,by omega,by rw[<-st,hke];exact he,by omega,rfl,rfl⟩,by simp only[bq];omega⟩
         ·simp only[tt,seval,h1',hkl]
          rw[List.getElem?_eq_none_iff.2 (by omega)] at st
          simp only at st
          refine fun _=>?_
          exact⟨[],none,al _,an _,⟨k,n,rfl,by omega,by rw[<-st,hke];exact he,by omega,rfl,rfl⟩,by simp only[bq];omega⟩
       ·have e2:(aZ l j (min l.length (j+2))=⟨#[45,45]⟩)=False:=eq_false fun h=>hd (by
         have:=(zw (by omega)).1 h
         rw[az hil] at this
         exact⟨Option.some.inj this.1,this.2⟩)
        rw[if_neg hd] at he
        simp only[tt,seval,e2]
        by_cases hc:l[j]=47/\l[j+1]?=some 42
        ·have e3:(aZ l j (min l.length (j+2))=⟨#[47,42]⟩)=True:=eq_true ((zw (by omega)).2 ⟨by rw[az hil,hc.1],hc.2⟩)
         rw[if_pos hc] at he
         have hj2:j+1<l.length:=(List.getElem?_eq_some_iff.1 hc.2).1
         simp only[tt,seval,e3]
         rw[aq (n:=(j:Int)+2) (by omega) (by omega)]
         refine dLoop.intro (fun f' L p=>∃(k m:Nat),f' 6=vi k/\j+2<=k/\k<=s.size/\lM l m k=lM l (l.length+1) (j+2)/\l.length+1<=m+k/\L=[]/\p=none) (fun f' _ _=>(s.size-bq (f' 6)).toNat) [] none ⟨al _,an _,?_⟩ ?_
         ·simp only[tt,seval]
          exact⟨j+2,l.length+1,rfl,by omega,by omega,rfl,by omega⟩
         ·rintro g2 L p ⟨k,m,h6,hjk,hk,hke,hm,rfl,rfl⟩
          simp only[tt,seval] at h6
          cases m with
          |zero=>exact absurd hm (by omega)
          |succ m=>
          rw[lM] at hke
          simp only[tt,seval,h6,Int.ofNat_lt]
          refine fun _=>?_
          by_cases hkl:k<s.size
          ·have hkl':k<l.length:=by omega
           simp only[tt,seval,h6,hkl]
           refine fun _=>?_
           rw[aq (n:=(k:Int)+2) (by omega) (by omega)]
           have em:(if (s.size:Int)<(k:Int)+2 then (s.size:Int) else (k:Int)+2)=((min l.length (k+2):Nat):Int):=by split<;>omega
           refine cZ (y6 s.size (k+2)) ?_ ?_<;>simp only[tt,seval]
           rw[em,gw (by kernel_rfl) (show s.size<=9223372036854775807 by omega) (by omega) (by omega) (by omega),Int.toNat_natCast,Int.toNat_natCast,ij hl]
           simp only[tt,seval,h6]
           by_cases hq:l[k]?=some 42/\l[k+1]?=some 47
           ·have e4:decide (aZ l k (min l.length (k+2))=⟨#[42,47]⟩)=true:=av ((zw (by omega)).2 hq)
            rw[if_pos hq] at hke
            rw[<-hke] at he
            simp only at he
            have hk2:k+1<l.length:=(List.getElem?_eq_some_iff.1 hq.2).1
            have g1:decide ((s.size:Int)<=(k:Int))=false:=au (by omega)
            have g1':((s.size:Int)<=(k:Int))=False:=eq_false (by omega)
            simp only[tt,seval,e4,g1']
            refine fun _=>?_
            rw[aq (n:=(k:Int)+2) (by omega) (by omega)]
            exact⟨[],none,al _,an _,⟨k+2,n,rfl,by omega,he,by omega,rfl,rfl⟩,by simp only[bq];omega⟩
           ·have e4:decide (aZ l k (min l.length (k+2))=⟨#[42,47]⟩)=false:=au fun h=>hq ((zw (by omega)).1 h)
            rw[if_neg hq,if_pos hkl'] at hke
            simp only[tt,seval,e4]
            rw[aq (n:=(k:Int)+1) (by omega) (by omega)]
            exact⟨[],none,al _,an _,⟨k+1,m,rfl,by omega,by omega,hke,by omega,rfl,rfl⟩,by simp only[bq];omega⟩
          ·have hks:k=s.size:=by omega
           have hn1:l[k]?=none:=List.getElem?_eq_none_iff.2 (by omega)
           rw[hn1,if_neg (by simp),if_neg (by omega)] at hke
           rw[<-hke] at he
           simp only at he
           rw[<-he]
           have g1:decide ((s.size:Int)<=(k:Int))=true:=av (by omega)
           have g1':((s.size:Int)<=(k:Int))=True:=eq_true (by omega)
           simp only[tt,seval,h1,h6,hkl,g1']
           refine fun _=>⟨_,_,kh ?_,ak rfl⟩
           rw[aq (n:=-(j:Int)) (by omega) (by omega),aq (by omega) (by omega)]
           rfl
        ·have e3:(aZ l j (min l.length (j+2))=⟨#[47,42]⟩)=False:=eq_false fun h=>hc (by
          have:=(zw (by omega)).1 h
          rw[az hil] at this
          exact⟨Option.some.inj this.1,this.2⟩)
         rw[if_neg hc] at he
         simp only[tt,seval,e3]
         rw[<-he]
         exact⟨_,_,rfl,ak rfl⟩
  ·have:j=s.size:=by omega
   subst this
   rw[List.getElem?_eq_none_iff.2 (by omega)] at he
   simp only at he
   rw[<-he]
   exact⟨_,_,rfl,ak rfl⟩
theorem ik (l:List UInt8) (i j:Nat):(aZ l i j).size=min (j-i) (l.length-i):=by
 unfold aZ
 show ((l.drop i).take (j-i)).toArray.size=_
 simp
def E8:Option (Tok×Nat)->Int
 |some (_,e)=>e
 |none=>-1
theorem dc {l:List UInt8} {a:Nat} {b:UInt8} {t:Tok} {e:Nat} (hr:cB l a b=some (t,e)) (ho:bg t=true):bk l a b=some (t,e):=by
 unfold bk
 rw[hr]
 simp only[ho,if_true]
theorem dZ {l:List UInt8} {a:Nat} {b:UInt8} {t:Tok} {e:Nat} (hr:cB l a b=some (t,e)) (ho:bg t=false):bk l a b=none:=by
 unfold bk
 rw[hr]
 simp only[ho,Bool.false_eq_true,if_false]
theorem th (l:List UInt8) (a:Nat):cB l a 34=(dv l 34 (l.length+1) (a+1) []).map fun x=>(⟨2,⟨x.1.toArray⟩,a⟩,x.2):=by
 unfold cB
 simp only
 rw[if_neg (by decide),if_neg (by decide),if_pos trivial]
theorem tj (l:List UInt8) (a:Nat):cB l a 39=(dv l 39 (l.length+1) (a+1) []).map fun x=>(⟨4,⟨x.1.toArray⟩,a⟩,x.2):=by
 unfold cB
 simp only
 rw[if_neg (by decide),if_neg (by decide),if_neg (by decide),if_pos trivial]
set_option maxHeartbeats 4000000 in
theorem D2 (s:ByteArray) (a:Nat) (b:UInt8) (hs:s.size<=1048576) (hb:s.data.toList[a]?=some b):Cl Tryz.prog 148 [vs s,vi a] [] fun r _=>∃t:Tok,r = .tu [(ar t.row,false),([.v (.int .i64 (E8 (bk s.data.toList a b)))],true)]/\∀t' e,bk s.data.toList a b=some (t',e)->t=t':=by
 obtain⟨l,hl⟩:∃l,l=s.data.toList:=⟨_,rfl⟩
 have hll:l.length=s.size:=by rw[hl];exact aD s
 rw[<-hl] at hb ⊢
 obtain⟨ha,hba⟩:=List.getElem?_eq_some_iff.1 hb
 refine ah ab false Tryz.func148 rfl (by kernel_rfl) ?_
 simp only[Tryz.f148,tt,seval]
 rw[aq (n:=(a:Int)+1) (by omega) (by omega),cv hl ha,hba]
 simp only[tt,seval]
 refine cZ (lV b.toNat) ?_ ?_<;>simp only[tt,seval]
 cases hL:ki b.toNat with
 |true=>
  simp only[tt,seval]
  have hrl:=mI (B:=l) a
  have hrh:=mJ (B:=l) (i:=a) (by omega)
  have crun:=y4 s a hs (by omega)
  rw[<-hl] at crun
  refine cZ (crun) ?_ ?_<;>simp only[tt,seval]
  rw[gw (by kernel_rfl) (show s.size<=9223372036854775807 by omega) (by omega) (by omega) (by omega),Int.toNat_natCast,Int.toNat_natCast,ij hl]
  simp only[tt,seval]
  have hsz:(aZ l a (bf l a)).size<=1048576:=by rw[ik];omega
  generalize hx:aZ l a (bf l a)=x at *
  refine cZ (sC x hsz) ?_ ?_<;>simp only[tt,seval]
  have hk:=sE x
  have hraw:cB l a b=some (if lK x=0 then ⟨2,x,a⟩ else ⟨1,bW x,a⟩,bf l a):=by
   unfold cB
   simp only[fu,hL,if_true,hx]
  refine aa (fun hg=>?_) (fun hg=>?_)
  ·rw[if_neg (by omega)] at hraw
   refine cZ (pz x hsz) ?_ ?_<;>simp only[tt,seval]
   have hno:decide (((bf l a:Nat):Int)<0)=false:=au (by omega)
   simp only[tt,seval,hno]
   refine cZ (cG (Tok.mk 1 (bW x) a) (by show (bW x).size<=_;rw[fJ];exact hsz)) ?_ ?_<;>simp only[tt,seval,Tok.row]
   cases ho:bg (Tok.mk 1 (bW x) a) with
   |true=>
    have e1:bk l a b=some ((Tok.mk 1 (bW x) a),bf l a):=dc hraw ho
    rw[e1]
    simp only[tt,seval]
    refine⟨.tu [(ar (Tok.mk 1 (bW x) a).row,false),([.v (.int .i64 ((bf l a:Nat):Int))],true)],[],⟨(Tok.mk 1 (bW x) a),rfl,fun t' e' h=>by cases h;rfl⟩,ai ?_⟩
    simp only[tt,seval,Tok.row]
   |false=>
    have e1:bk l a b=none:=dZ hraw ho
    rw[e1]
    simp only[tt,seval]
    refine⟨.tu [(ar (Tok.mk 1 (bW x) a).row,false),([.v (.int .i64 (-1))],true)],[],⟨(Tok.mk 1 (bW x) a),by first|exact⟨rfl,fun t' e' h=>by cases h⟩|rfl⟩,ai ?_⟩
    simp only[tt,seval,Tok.row]
  ·rw[if_pos (by omega)] at hraw
   have hno:decide (((bf l a:Nat):Int)<0)=false:=au (by omega)
   simp only[tt,seval,hno]
   refine cZ (cG (Tok.mk 2 x a) hsz) ?_ ?_<;>simp only[tt,seval,Tok.row]
   cases ho:bg (Tok.mk 2 x a) with
   |true=>
    have e1:bk l a b=some ((Tok.mk 2 x a),bf l a):=dc hraw ho
    rw[e1]
    simp only[tt,seval]
    refine⟨.tu [(ar (Tok.mk 2 x a).row,false),([.v (.int .i64 ((bf l a:Nat):Int))],true)],[],⟨(Tok.mk 2 x a),rfl,fun t' e' h=>by cases h;rfl⟩,ai ?_⟩
    simp only[tt,seval,Tok.row]
   |false=>
    have e1:bk l a b=none:=dZ hraw ho
    rw[e1]
    simp only[tt,seval]
    refine⟨.tu [(ar (Tok.mk 2 x a).row,false),([.v (.int .i64 (-1))],true)],[],⟨(Tok.mk 2 x a),by first|exact⟨rfl,fun t' e' h=>by cases h⟩|rfl⟩,ai ?_⟩
    simp only[tt,seval,Tok.row]
 |false=>
  simp only[tt,seval]
  rw[cv hl ha,hba]
  simp only[tt,seval]
  refine cZ (jA b.toNat) ?_ ?_<;>simp only[tt,seval]
  cases hF:decide ((48:Int)<=(b.toNat:Int)/\(b.toNat:Int)<=57) with
  |true=>
   have eF:((48:Int)<=(b.toNat:Int)/\(b.toNat:Int)<=57)=True:=eq_true (of_decide_eq_true hF)
   simp only[tt,seval,eF]
   have hrl:=mI (B:=l) a
   have hrh:=mJ (B:=l) (i:=a) (by omega)
   have crun:=y4 s a hs (by omega)
   rw[<-hl] at crun
   refine cZ (crun) ?_ ?_<;>simp only[tt,seval]
   rw[gw (by kernel_rfl) (show s.size<=9223372036854775807 by omega) (by omega) (by omega) (by omega),Int.toNat_natCast,Int.toNat_natCast,ij hl]
   simp only[tt,seval]
   have hsz:(aZ l a (bf l a)).size<=1048576:=by rw[ik];omega
   generalize hx:aZ l a (bf l a)=x at *
   have hraw:cB l a b=some (⟨3,x,a⟩,bf l a):=by
    unfold cB
    simp only[fu,gz,hL,hF,if_true,Bool.false_eq_true,if_false,hx]
   have hno:decide (((bf l a:Nat):Int)<0)=false:=au (by omega)
   simp only[tt,seval,hno]
   refine cZ (cG (Tok.mk 3 x a) hsz) ?_ ?_<;>simp only[tt,seval,Tok.row]
   cases ho:bg (Tok.mk 3 x a) with
   |true=>
    have e1:bk l a b=some ((Tok.mk 3 x a),bf l a):=dc hraw ho
    rw[e1]
    simp only[tt,seval]
    refine⟨.tu [(ar (Tok.mk 3 x a).row,false),([.v (.int .i64 ((bf l a:Nat):Int))],true)],[],⟨(Tok.mk 3 x a),rfl,fun t' e' h=>by cases h;rfl⟩,ai ?_⟩
    simp only[tt,seval,Tok.row]
   |false=>
    have e1:bk l a b=none:=dZ hraw ho
    rw[e1]
    simp only[tt,seval]
    refine⟨.tu [(ar (Tok.mk 3 x a).row,false),([.v (.int .i64 (-1))],true)],[],⟨(Tok.mk 3 x a),by first|exact⟨rfl,fun t' e' h=>by cases h⟩|rfl⟩,ai ?_⟩
    simp only[tt,seval,Tok.row]
  |false=>
   have eF:((48:Int)<=(b.toNat:Int)/\(b.toNat:Int)<=57)=False:=eq_false (of_decide_eq_false hF)
   simp only[tt,seval,eF]
   rw[cv hl ha,hba]
   simp only[tt,seval]
   by_cases hb34:b=34
   ·have e34:((b.toNat:Int)=34)=True:=eq_true (by rw[hb34];rfl)
    simp only[tt,seval,e34]
    have cq:=qv s a b hs (by rw[<-hl];exact hb)
    rw[<-hl] at cq
    refine cZ (cq) ?_ ?_<;>simp only[tt,seval]
    have hqs:=fun x e=>dH (B:=l) (q:=b) (n:=l.length+1) (i:=a+1) (l:=[]) (x:=x) (e:=e)
    cases hq:dv l b (l.length+1) (a+1) [] with
    |none=>
     have hr:cB l a b=none:=by rw[hb34] at hq ⊢;rw[th,hq];rfl
     have e1:bk l a b=none:=by unfold bk;rw[hr]
     rw[e1]
     simp only[tt,seval,Bz]
     refine⟨.tu [(ar (Tok.mk 2 ⟨#[]⟩ a).row,false),([.v (.int .i64 (-1))],true)],[],⟨Tok.mk 2 ⟨#[]⟩ a,by first|exact⟨rfl,fun t' e' h=>by cases h⟩|rfl⟩,ai ?_⟩
     simp only[tt,seval,Tok.row]
    |some y=>
     obtain⟨x,e⟩:=y
     have hr:cB l a b=some (⟨2,⟨x.toArray⟩,a⟩,e):=by rw[hb34] at hq ⊢;rw[th,hq];rfl
     have hqs:=hqs x e hq
     simp only[tt,seval,Bz]
     have hno:decide (((e:Nat):Int)<0)=false:=au (by omega)
     simp only[tt,seval,hno]
     refine cZ (cG (Tok.mk 2 ⟨x.toArray⟩ a) (by show x.length<=_;simp only[List.length_nil] at hqs;omega)) ?_ ?_<;>simp only[tt,seval,Tok.row]
     cases ho:bg (Tok.mk 2 ⟨x.toArray⟩ a) with
     |true=>
      have e1:bk l a b=some ((Tok.mk 2 ⟨x.toArray⟩ a),e):=dc hr ho
      rw[e1]
      simp only[tt,seval]
      refine⟨.tu [(ar (Tok.mk 2 ⟨x.toArray⟩ a).row,false),([.v (.int .i64 ((e:Nat):Int))],true)],[],⟨(Tok.mk 2 ⟨x.toArray⟩ a),rfl,fun t' e' h=>by cases h;rfl⟩,ai ?_⟩
      simp only[tt,seval,Tok.row]
     |false=>
      have e1:bk l a b=none:=dZ hr ho
      rw[e1]
      simp only[tt,seval]
      refine⟨.tu [(ar (Tok.mk 2 ⟨x.toArray⟩ a).row,false),([.v (.int .i64 (-1))],true)],[],⟨(Tok.mk 2 ⟨x.toArray⟩ a),by first|exact⟨rfl,fun t' e' h=>by cases h⟩|rfl⟩,ai ?_⟩
      simp only[tt,seval,Tok.row]
   ·have h34:¬b=34:=hb34
    have e34:((b.toNat:Int)=34)=False:=eq_false fun h=>hb34 (UInt8.toNat_inj.1 (by show b.toNat=34;omega))
    simp only[tt,seval,e34]
    rw[cv hl ha,hba]
    simp only[tt,seval]
    by_cases hb39:b=39
    ·have e39:((b.toNat:Int)=39)=True:=eq_true (by rw[hb39];rfl)
     simp only[tt,seval,e39]
     have cq:=qv s a b hs (by rw[<-hl];exact hb)
     rw[<-hl] at cq
     refine cZ (cq) ?_ ?_<;>simp only[tt,seval]
     have hqs:=fun x e=>dH (B:=l) (q:=b) (n:=l.length+1) (i:=a+1) (l:=[]) (x:=x) (e:=e)
     cases hq:dv l b (l.length+1) (a+1) [] with
     |none=>
      have hr:cB l a b=none:=by rw[hb39] at hq ⊢;rw[tj,hq];rfl
      have e1:bk l a b=none:=by unfold bk;rw[hr]
      rw[e1]
      simp only[tt,seval,Bz]
      refine⟨.tu [(ar (Tok.mk 4 ⟨#[]⟩ a).row,false),([.v (.int .i64 (-1))],true)],[],⟨Tok.mk 4 ⟨#[]⟩ a,by first|exact⟨rfl,fun t' e' h=>by cases h⟩|rfl⟩,ai ?_⟩
      simp only[tt,seval,Tok.row]
     |some y=>
      obtain⟨x,e⟩:=y
      have hr:cB l a b=some (⟨4,⟨x.toArray⟩,a⟩,e):=by rw[hb39] at hq ⊢;rw[tj,hq];rfl
      have hqs:=hqs x e hq
      simp only[tt,seval,Bz]
      have hno:decide (((e:Nat):Int)<0)=false:=au (by omega)
      simp only[tt,seval,hno]
      refine cZ (cG (Tok.mk 4 ⟨x.toArray⟩ a) (by show x.length<=_;simp only[List.length_nil] at hqs;omega)) ?_ ?_<;>simp only[tt,seval,Tok.row]
      cases ho:bg (Tok.mk 4 ⟨x.toArray⟩ a) with
      |true=>
       have e1:bk l a b=some ((Tok.mk 4 ⟨x.toArray⟩ a),e):=dc hr ho
       rw[e1]
       simp only[tt,seval]
       refine⟨.tu [(ar (Tok.mk 4 ⟨x.toArray⟩ a).row,false),([.v (.int .i64 ((e:Nat):Int))],true)],[],⟨(Tok.mk 4 ⟨x.toArray⟩ a),rfl,fun t' e' h=>by cases h;rfl⟩,ai ?_⟩
       simp only[tt,seval,Tok.row]
      |false=>
       have e1:bk l a b=none:=dZ hr ho
       rw[e1]
       simp only[tt,seval]
       refine⟨.tu [(ar (Tok.mk 4 ⟨x.toArray⟩ a).row,false),([.v (.int .i64 (-1))],true)],[],⟨(Tok.mk 4 ⟨x.toArray⟩ a),by first|exact⟨rfl,fun t' e' h=>by cases h⟩|rfl⟩,ai ?_⟩
       simp only[tt,seval,Tok.row]
    ·have e39:((b.toNat:Int)=39)=False:=eq_false fun h=>hb39 (UInt8.toNat_inj.1 (by show b.toNat=39;omega))
     simp only[tt,seval,e39]
     have hraw:cB l a b=some (⟨5,aZ l a (dk l a),a⟩,dk l a):=by
      unfold cB
      simp only[fu,gz,hL,hF,hb34,hb39,Bool.false_eq_true,if_false]
     have hsg:=rA ha
     have e2:IntKind.i64.wrap ((a:Int)+2)=((a+2:Nat):Int):=by rw[aq (by omega) (by omega)];omega
     have e1':(a:Int)+1=((a+1:Nat):Int):=by omega
     rw[e2]
     refine fun _=>?_
     by_cases h2:a+2<=s.size
     ·have g2:decide (((a+2:Nat):Int)<=(s.size:Int))=true:=av (by omega)
      simp only[tt,seval,g2,e2]
      rw[gw (by kernel_rfl) (show s.size<=9223372036854775807 by omega) (by omega) (by omega) (by omega),Int.toNat_natCast,Int.toNat_natCast,ij hl]
      simp only[tt,seval]
      refine cZ (ub (aZ l a (a+2))) ?_ ?_<;>simp only[tt,seval,e2]
      cases hs2:fp (aZ l a (a+2)) with
      |true=>
       have hsn:dk l a=a+2:=by unfold dk;rw[if_pos ⟨by omega,hs2⟩]
       simp only[tt,seval]
       rw[hsn] at hraw hsg
       rw[gw (by kernel_rfl) (show s.size<=9223372036854775807 by omega) (by omega) (by omega) (by omega),Int.toNat_natCast,Int.toNat_natCast,ij hl]
       simp only[tt,seval]
       have hsz:(aZ l a (a+2)).size<=1048576:=by rw[ik];omega
       have hno:decide ((((a+2):Nat):Int)<0)=false:=au (by omega)
       simp only[tt,seval,hno]
       refine cZ (cG (Tok.mk 5 (aZ l a (a+2)) a) hsz) ?_ ?_<;>simp only[tt,seval,Tok.row]
       cases ho:bg (Tok.mk 5 (aZ l a (a+2)) a) with
       |true=>
        have e1:bk l a b=some ((Tok.mk 5 (aZ l a (a+2)) a),(a+2)):=dc hraw ho
        rw[e1]
        simp only[tt,seval]
        refine⟨.tu [(ar (Tok.mk 5 (aZ l a (a+2)) a).row,false),([.v (.int .i64 (((a+2):Nat):Int))],true)],[],⟨(Tok.mk 5 (aZ l a (a+2)) a),rfl,fun t' e' h=>by cases h;rfl⟩,ai ?_⟩
        simp only[tt,seval,Tok.row]
       |false=>
        have e1:bk l a b=none:=dZ hraw ho
        rw[e1]
        simp only[tt,seval]
        refine⟨.tu [(ar (Tok.mk 5 (aZ l a (a+2)) a).row,false),([.v (.int .i64 (-1))],true)],[],⟨(Tok.mk 5 (aZ l a (a+2)) a),by first|exact⟨rfl,fun t' e' h=>by cases h⟩|rfl⟩,ai ?_⟩
        simp only[tt,seval,Tok.row]
      |false=>
       have hsn:dk l a=a+1:=by unfold dk;rw[if_neg (by rw[hs2];simp)]
       simp only[tt,seval]
       rw[e1']
       rw[hsn] at hraw hsg
       rw[gw (by kernel_rfl) (show s.size<=9223372036854775807 by omega) (by omega) (by omega) (by omega),Int.toNat_natCast,Int.toNat_natCast,ij hl]
       simp only[tt,seval]
       have hsz:(aZ l a (a+1)).size<=1048576:=by rw[ik];omega
       have hno:decide ((((a+1):Nat):Int)<0)=false:=au (by omega)
       simp only[tt,seval,hno]
       refine cZ (cG (Tok.mk 5 (aZ l a (a+1)) a) hsz) ?_ ?_<;>simp only[tt,seval,Tok.row]
       cases ho:bg (Tok.mk 5 (aZ l a (a+1)) a) with
       |true=>
        have e1:bk l a b=some ((Tok.mk 5 (aZ l a (a+1)) a),(a+1)):=dc hraw ho
        rw[e1]
        simp only[tt,seval]
        refine⟨.tu [(ar (Tok.mk 5 (aZ l a (a+1)) a).row,false),([.v (.int .i64 (((a+1):Nat):Int))],true)],[],⟨(Tok.mk 5 (aZ l a (a+1)) a),rfl,fun t' e' h=>by cases h;rfl⟩,ai ?_⟩
        simp only[tt,seval,Tok.row]
       |false=>
        have e1:bk l a b=none:=dZ hraw ho
        rw[e1]
        simp only[tt,seval]
        refine⟨.tu [(ar (Tok.mk 5 (aZ l a (a+1)) a).row,false),([.v (.int .i64 (-1))],true)],[],⟨(Tok.mk 5 (aZ l a (a+1)) a),by first|exact⟨rfl,fun t' e' h=>by cases h⟩|rfl⟩,ai ?_⟩
        simp only[tt,seval,Tok.row]
     ·have g2:decide (((a+2:Nat):Int)<=(s.size:Int))=false:=au (by omega)
      have hsn:dk l a=a+1:=by unfold dk;rw[if_neg (by omega)]
      simp only[tt,seval,g2,e2]
      rw[e1']
      rw[hsn] at hraw hsg
      rw[gw (by kernel_rfl) (show s.size<=9223372036854775807 by omega) (by omega) (by omega) (by omega),Int.toNat_natCast,Int.toNat_natCast,ij hl]
      simp only[tt,seval]
      have hsz:(aZ l a (a+1)).size<=1048576:=by rw[ik];omega
      have hno:decide ((((a+1):Nat):Int)<0)=false:=au (by omega)
      simp only[tt,seval,hno]
      refine cZ (cG (Tok.mk 5 (aZ l a (a+1)) a) hsz) ?_ ?_<;>simp only[tt,seval,Tok.row]
      cases ho:bg (Tok.mk 5 (aZ l a (a+1)) a) with
      |true=>
       have e1:bk l a b=some ((Tok.mk 5 (aZ l a (a+1)) a),(a+1)):=dc hraw ho
       rw[e1]
       simp only[tt,seval]
       refine⟨.tu [(ar (Tok.mk 5 (aZ l a (a+1)) a).row,false),([.v (.int .i64 (((a+1):Nat):Int))],true)],[],⟨(Tok.mk 5 (aZ l a (a+1)) a),rfl,fun t' e' h=>by cases h;rfl⟩,ai ?_⟩
       simp only[tt,seval,Tok.row]
      |false=>
       have e1:bk l a b=none:=dZ hraw ho
       rw[e1]
       simp only[tt,seval]
       refine⟨.tu [(ar (Tok.mk 5 (aZ l a (a+1)) a).row,false),([.v (.int .i64 (-1))],true)],[],⟨(Tok.mk 5 (aZ l a (a+1)) a),by first|exact⟨rfl,fun t' e' h=>by cases h⟩|rfl⟩,ai ?_⟩
       simp only[tt,seval,Tok.row]
def rb:List Tok ⊕ Nat->List Tok×Int
 |.inl m=>(m,-1)
 |.inr p=>([],p)
theorem qx {s:ByteArray} {L:List Tok} (h:fw s = .inl L):s.size<=1048576:=by
 unfold fw at h
 split at h
 ·cases h
 ·omega
set_option maxHeartbeats 4000000 in
theorem EK (s:ByteArray):Cl Tryz.prog 70 [vs s] [] fun r _=>r = .tu [([.sl (rb (fw s)).1.length ((rb (fw s)).1.flatMap Tok.row) none],true),([.v (.int .i64 (rb (fw s)).2)],true)]:=by
 obtain⟨l,hl⟩:∃l,l=s.data.toList:=⟨_,rfl⟩
 have hll:l.length=s.size:=by rw[hl];exact aD s
 obtain⟨rr,hrr⟩:=mK (B:=l) (l.length+1) 0 [] (by omega) (by omega)
 refine ah ab false Tryz.func70 rfl (by kernel_rfl) ?_
 simp only[Tryz.f70,tt,seval]
 refine fun _=>aa (fun hg=>?_) (fun hg=>?_)
 ·have e:fw s = .inr 2000:=by unfold fw;rw[if_pos (by omega)]
  rw[e]
  refine⟨.tu [([.sl 0 [] none],true),([.v (.int .i64 2000)],true)],[],rfl,ai ?_⟩
  simp only[tt,seval]
 have hs:s.size<=1048576:=by omega
 have e:fw s=rr:=by unfold fw;rw[if_neg (by omega),<-hl,hrr];rfl
 rw[e]
 refine dLoop.gh [.ren 8 40] ⟨by decide,by decide,?_⟩
 refine dLoop0.intro (fun f' L p=>∃(i n:Nat) (m:List Tok),f' 5=vi i/\f' 4 = .c (.s 40 m.length)/\i<=s.size/\m.length<=i/\oW l n i m=some rr/\l.length+1<=n+i/\L=[(40,.arr 150 m.length (m.flatMap Tok.row) none)]/\p=none) (fun f' _ _=>(s.size-bq (f' 5)).toNat) [(40,.arr 150 0 [] none)] none ⟨ac rfl (al _),an _,?_⟩ ?_
 ·simp only[tt,seval]
  exact⟨0,l.length+1,[],rfl,rfl,by omega,by simp,hrr,by omega,rfl⟩
 ·rintro g L p ⟨i,n,m,h5,h4,hi,hml,he,hn,rfl,rfl⟩
  simp only[tt,seval] at h5 h4
  cases n with
  |zero=>exact absurd hn (by omega)
  |succ n=>
  rw[oW] at he
  obtain⟨q,okb,hp,hiq,hqs⟩:=eu (B:=l) (l.length+1) i (by omega) (by omega)
  rw[hp] at he
  simp only at he
  have cp:=BA s i hs hi
  rw[<-hl,hp] at cp
  simp only[tt,seval,h5]
  refine cZ (cp) ?_ ?_<;>simp only[tt,seval,h4]
  cases okb with
  |false=>
   rw[if_pos rfl] at he
   injection he with he;subst he
   have hneg:decide ((-(q:Int)-1)<0)=true:=av (by omega)
   have hneg':((-(q:Int)-1)<0)=True:=eq_true (by omega)
   simp only[tt,seval,E7,hneg']
   rw[aq (n:=-(-(q:Int)-1)) (by omega) (by omega),aq (by omega) (by omega)]
   refine⟨.tu [([.sl 0 [] none],true),([.v (.int .i64 (q:Nat))],true)],[],rfl,ai ?_⟩
   simp only[tt,seval]
   omega
  |true=>
   rw[if_neg (by simp)] at he
   have hneg':((q:Int)<0)=False:=eq_false (by omega)
   simp only[tt,seval,E7,hneg']
   refine fun _=>?_
   by_cases hqe:s.size<=q
   ·have hq1:((s.size:Int)<=(q:Int))=True:=eq_true (by omega)
    rw[List.getElem?_eq_none_iff.2 (by omega)] at he
    simp only at he
    injection he with he;subst he
    simp only[tt,seval,hq1]
    trace_state
    refine⟨.tu [([.sl m.length (m.flatMap Tok.row) none],true),([.v (.int .i64 (-1))],true)],[],rfl,ai ?_⟩
    simp only[tt,seval]
   ·have hq1:((s.size:Int)<=(q:Int))=False:=eq_false (by omega)
    have hql:q<l.length:=by omega
    have hb:l[q]?=some l[q]:=az hql
    rw[hb] at he
    simp only at he
    have co:=D2 s q l[q] hs (by rw[<-hl];exact hb)
    rw[<-hl] at co
    have osp:=fun t e=>hJ (e:=e) (t:=t) hb
    generalize l[q]=b at *
    simp only[tt,seval,hq1]
    cases ho:bk l q b with
    |none=>
     rw[ho] at he co
     simp only at he
     injection he with he;subst he
     refine eb (co) ?_ ?_ ?_
     ·decide
     ·simp only[tt,seval]
     rintro r ⟨t,rfl,_⟩
     simp only[tt,seval,h4,E8,Tok.row]
     refine⟨.tu [([.sl 0 [] none],true),([.v (.int .i64 (q:Nat))],true)],[],rfl,ai ?_⟩
     simp only[tt,seval]
    |some y=>
     obtain⟨t,e⟩:=y
     rw[ho] at he co
     simp only at he
     obtain⟨he1,he2,_⟩:=osp t e ho
     have hne:((e:Int)<0)=False:=eq_false (by omega)
     refine eb (co) ?_ ?_ ?_
     ·decide
     ·simp only[tt,seval]
     rintro r ⟨t',rfl,ht⟩
     simp only[tt,seval,h4,E8,Tok.row,hne]
     obtain rfl:=ht t e rfl
     refine⟨by kernel_rfl,⟨by simp only[maxLen];omega,by omega⟩,?_⟩
     refine⟨[(40,.arr 150 (m++[t']).length ((m++[t']).flatMap Tok.row) none)],none,by simp only[List.flatMap_append,aB,List.flatMap_cons,List.flatMap_nil,List.append_nil,Tok.row];exact ac rfl (al _),an _,⟨e,n,m++[t'],rfl,by simp,by omega,by simp;omega,he,by omega,rfl,rfl⟩,by simp only[bq];omega⟩
def vh:Option (List UInt8×Nat)->S
 |some (x,e)=>.tu [([.v (.string ⟨x.toArray⟩)],true),([.v (.int .i64 (e:Nat))],true),([.v (.bool true)],true)]
 |none=>.tu [([.v (.string ⟨#[]⟩)],true),([.v (.int .i64 0)],true),([.v (.bool false)],true)]
theorem ni (s:ByteArray) (a:Nat) (q:UInt8) (hs:s.size<=1048576) (hq:s.data.toList[a]?=some q):Cl Tryz.prog 297 [vs s,vi a] [] fun r _=>r=vh (dv s.data.toList q (s.data.toList.length+1) (a+1) []):=by
 obtain⟨l,hl⟩:∃l,l=s.data.toList:=⟨_,rfl⟩
 have hll:l.length=s.size:=by rw[hl];exact aD s
 rw[<-hl] at hq ⊢
 obtain⟨ha,hqa⟩:=List.getElem?_eq_some_iff.1 hq
 refine ah ab false Tryz.func297 rfl (by kernel_rfl) ?_
 simp only[Tryz.f297,tt,seval]
 rw[cv hl ha,hqa]
 simp only[tt,seval]
 rw[aq (n:=(a:Int)+1) (by omega) (by omega)]
 refine dLoop.gh [.ren 13 51] ⟨by decide,by decide,?_⟩
 refine dLoop0.intro (fun f' L p=>∃(i n:Nat) (bs:List UInt8),f' 9=vi i/\f' 8 = .c (.s 51 bs.length)/\i<=s.size/\bs.length<=i/\dv l q n i bs=dv l q (l.length+1) (a+1) []/\l.length+1<=n+i/\L=[(51,.arr 5 bs.length (aX bs) none)]/\p=none) (fun f' _ _=>(s.size-bq (f' 9)).toNat) [(51,.arr 5 0 (aX []) none)] none ⟨ac rfl (al _),an _,?_⟩ ?_
 ·simp only[tt,seval]
  exact⟨a+1,l.length+1,[],rfl,rfl,by omega,by simp,rfl,by omega,rfl⟩
 ·rintro g L p ⟨i,n,bs,h9,h8,hi,hbl,he,hn,rfl,rfl⟩
  simp only[tt,seval] at h9 h8
  simp only[tt,seval,h9,Int.ofNat_lt]
  cases n with
  |zero=>exact absurd hn (by omega)
  |succ n=>
  rw[dv] at he
  refine fun _=>aa (fun hlt=>?_) (fun hge=>?_)
  ·have hil:i<l.length:=by omega
   have hx:l[i]?=some l[i]:=az hil
   have ex:bs.length<=9223372036854775807:=by omega
   have ew:IntKind.i64.wrap ((i:Int)+1)=((i+1:Nat):Int):=by rw[aq (by omega) (by omega)];omega
   rw[hx] at he
   simp only at he
   rw[cv hl hil]
   simp only[tt,seval,h9,h8]
   by_cases hc:l[i]=q
   ·have eq1:((l[i].toNat:Int)=(q.toNat:Int))=True:=eq_true (by rw[hc])
    rw[if_pos hc] at he
    simp only[tt,seval,eq1]
    refine fun _=>?_
    rw[ew]
    by_cases hi1:i+1<l.length
    ·have g1:decide (((i+1:Nat):Int)=(s.size:Int))=false:=au (by omega)
     rw[az hi1] at he
     simp only[tt,seval,h9,g1,ew]
     rw[cv hl hi1]
     simp only[tt,seval,h9,h8]
     refine aa (fun hne=>?_) (fun heq=>?_)
     ·have hd:¬l[i+1]=q:=fun e=>by rw[e] at hne;simp at hne
      rw[if_neg (by simpa using hd)] at he
      refine⟨by kernel_rfl,by simp only[maxLen];omega,bs,rfl,rfl,?_⟩
      simp only[tt,seval,h9,ew]
      rw[<-he]
      exact⟨_,_,rfl,ak rfl⟩
     ·have hd:l[i+1]=q:=UInt8.toNat_inj.1 (by simp at heq;omega)
      rw[if_pos (by rw[hd])] at he
      rw[ew,cv hl hi1]
      simp only[tt,seval]
      refine⟨by kernel_rfl,⟨by simp only[maxLen];omega,by omega⟩,?_⟩
      rw[dE,hd,aq (n:=((i+1:Nat):Int)+1) (by omega) (by omega)]
      refine⟨[(51,.arr 5 (bs++[q]).length (aX (bs++[q])) none)],none,ac (by simp [Go.Dv.look]) (al _),an _,⟨i+2,n,bs++[q],kh (by omega),by simp,by omega,by simp;omega,he,by omega,rfl,rfl⟩,by simp only[bq];omega⟩
    ·have g1:decide (((i+1:Nat):Int)=(s.size:Int))=true:=av (by omega)
     rw[List.getElem?_eq_none_iff.2 (by omega),if_neg (by simp)] at he
     simp only[tt,seval,h9,h8,g1,ew]
     refine⟨by kernel_rfl,by simp only[maxLen];omega,bs,rfl,rfl,?_⟩
     simp only[tt,seval,h9,ew]
     rw[<-he]
     exact⟨_,_,rfl,ak rfl⟩
   ·have eq1:((l[i].toNat:Int)=(q.toNat:Int))=False:=eq_false fun h=>hc (UInt8.toNat_inj.1 (by omega))
    rw[if_neg hc] at he
    simp only[tt,seval,eq1]
    rw[cv hl hil]
    simp only[tt,seval,h9]
    refine⟨by kernel_rfl,⟨by simp only[maxLen];omega,by omega⟩,?_⟩
    rw[dE,ew]
    refine⟨[(51,.arr 5 (bs++[l[i]]).length (aX (bs++[l[i]])) none)],none,ac (by simp [Go.Dv.look]) (al _),an _,⟨i+1,n,bs++[l[i]],rfl,by simp,by omega,by simp;omega,he,by omega,rfl,rfl⟩,by simp only[bq];omega⟩
  ·have:i=s.size:=by omega
   subst this
   rw[List.getElem?_eq_none_iff.2 (by omega)] at he
   simp only at he
   rw[<-he]
   exact⟨_,_,rfl,ak rfl⟩
end Go.Proofs.YtbodcedhmccenaaGreatDoor
namespace Go.Proofs.YtbodcedhmccenaaGreatDoor
open Go Go.Shelf Go.Proofs
def Tryz.lays143_ren:Go.Shelf.Ren:=⟨fun|143=>294|219=>324|217=>322|225=>334|224=>335|267=>336|266=>333|314=>352|n=>n,fun|9=>9|3=>3|4=>4|5=>5|46=>218|146=>284|51=>283|n=>n,fun|1=>0|n=>n⟩
theorem Tryz.lays143:Go.Proofs.Lays.n143 Tryz.prog Tryz.lays143_ren:={
 mixed:=by kernel_rfl
 f143:=Tryz.func294.trans (congrArg some (by kernel_rfl))
 f217:=Tryz.func322.trans (congrArg some (by kernel_rfl))
 f219:=Tryz.func324.trans (congrArg some (by kernel_rfl))
 f224:=Tryz.func335.trans (congrArg some (by kernel_rfl))
 f225:=Tryz.func334.trans (congrArg some (by kernel_rfl))
 f266:=Tryz.func333.trans (congrArg some (by kernel_rfl))
 f267:=Tryz.func336.trans (congrArg some (by kernel_rfl))
 f314:=Tryz.func352.trans (congrArg some (by kernel_rfl))
 t3:=Tryz.underlying3
 a3:=Tryz.isAgg3
 z3:=Tryz.sizeOf3
 v3:=Tryz.zeroValue3
 t4:=Tryz.underlying4
 a4:=Tryz.isAgg4
 z4:=Tryz.sizeOf4
 v4:=Tryz.zeroValue4
 t5:=Tryz.underlying5
 a5:=Tryz.isAgg5
 z5:=Tryz.sizeOf5
 v5:=Tryz.zeroValue5
 t9:=Tryz.underlying9
 a9:=Tryz.isAgg9
 z9:=Tryz.sizeOf9
 v9:=Tryz.zeroValue9
 t46:=Tryz.underlying218
 a46:=Tryz.isAgg218
 z46:=Tryz.sizeOf218
 v46:=Tryz.zeroValue218
 t51:=Tryz.underlying283
 a51:=Tryz.isAgg283
 z51:=Tryz.sizeOf283
 v51:=Tryz.zeroValue283
 t146:=Tryz.underlying284
 a146:=Tryz.isAgg284
 z146:=Tryz.sizeOf284
 v146:=Tryz.zeroValue284
 g1:=by kernel_rfl }
def Tryz.lays137_ren:Go.Shelf.Ren:=⟨fun|137=>292|217=>322|266=>333|n=>n,fun|9=>9|5=>5|3=>3|n=>n,fun|n=>n⟩
theorem Tryz.lays137:Go.Proofs.Lays.n137 Tryz.prog Tryz.lays137_ren:={
 mixed:=by kernel_rfl
 f137:=Tryz.func292.trans (congrArg some (by kernel_rfl))
 f217:=Tryz.func322.trans (congrArg some (by kernel_rfl))
 f266:=Tryz.func333.trans (congrArg some (by kernel_rfl))
 t3:=Tryz.underlying3
 a3:=Tryz.isAgg3
 z3:=Tryz.sizeOf3
 v3:=Tryz.zeroValue3
 t5:=Tryz.underlying5
 a5:=Tryz.isAgg5
 z5:=Tryz.sizeOf5
 v5:=Tryz.zeroValue5
 t9:=Tryz.underlying9
 a9:=Tryz.isAgg9
 z9:=Tryz.sizeOf9
 v9:=Tryz.zeroValue9 }
def Tryz.lays99_ren:Go.Shelf.Ren:=⟨fun|99=>293|206=>323|n=>n,fun|9=>9|4=>4|3=>3|n=>n,fun|n=>n⟩
theorem Tryz.lays99:Go.Proofs.Lays.n99 Tryz.prog Tryz.lays99_ren:={
 mixed:=by kernel_rfl
 f99:=Tryz.func293.trans (congrArg some (by kernel_rfl))
 f206:=Tryz.func323.trans (congrArg some (by kernel_rfl))
 t3:=Tryz.underlying3
 a3:=Tryz.isAgg3
 z3:=Tryz.sizeOf3
 v3:=Tryz.zeroValue3
 t4:=Tryz.underlying4
 a4:=Tryz.isAgg4
 z4:=Tryz.sizeOf4
 v4:=Tryz.zeroValue4
 t9:=Tryz.underlying9
 a9:=Tryz.isAgg9
 z9:=Tryz.sizeOf9
 v9:=Tryz.zeroValue9 }
end Go.Proofs.YtbodcedhmccenaaGreatDoor
set_option maxRecDepth 8000
namespace Go.Proofs.YtbodcedhmccenaaGreatDoor
open Go Go.Dv
open Go.Vc (D d5 d6 cM bo)
open Go.RowKit (Below)
theorem mr (w:World):Below w.heap.size w w:=⟨rfl,rfl,rfl,Nat.le_refl _,fun _ _=>rfl⟩
theorem kK (s p:ByteArray):Cl Tryz.prog 293 [vs s,vs p] [] fun r _=>r=vb (Lib.hasPrefix s.data.toList p.data.toList):=
 Cl.ofVals (by kernel_rfl) [.string s,.string p] fun w hg=>by
  refine (Any.strings_HasPrefix Tryz.lays99 s p w).mono ?_
  rintro e w' ⟨rfl,rfl⟩
  exact⟨_,rfl,trivial,rfl,mr _⟩
theorem oL (s:ByteArray) (c:UInt8):Cl Tryz.prog 292 [vs s,vu (c.toNat:Int)] [] fun r _=>r=vi (Lib.indexByte s.data.toList c):=
 Cl.ofVals (by kernel_rfl) [.string s,.int .u8 (c.toNat:Int)] fun w hg=>by
  refine (Any.strings_IndexByte Tryz.lays137 s (c.toNat:Int) w).mono ?_
  rintro e w' ⟨rfl,rfl⟩
  exact⟨_,rfl,trivial,by simp,mr _⟩
theorem BB (s p:ByteArray) (hs:s.size<=1048576):Cl Tryz.prog 294 [vs s,vs p] [] fun r _=>r=vi (Lib.index s.data.toList p.data.toList):=
 Cl.ofVals (by kernel_rfl) [.string s,.string p] fun w hg=>by
  obtain⟨m,hm⟩:=A1 hg
  refine (Any.strings_Index Tryz.lays143 s p m w (by omega) hm).mono ?_
  rintro e w' ⟨rfl,rfl⟩
  exact⟨_,rfl,trivial,rfl,mr _⟩
theorem tl {s:ByteArray} {l:List UInt8} (hl:l=s.data.toList) (i:Nat):s.extract i s.size=⟨(l.drop i).toArray⟩:=by
 rw[ij hl]
 unfold aZ
 rw[List.take_of_length_le]
 rw[List.length_drop,hl,aD]
 exact Nat.le_refl _
theorem E9 (l:List UInt8) (i:Nat) (a b:UInt8):Lib.hasPrefix (l.drop i) [a,b]=decide (l[i]?=some a/\l[i+1]?=some b):=by
 have h0:l[i]?=(l.drop i)[0]?:=by simp [List.getElem?_drop]
 have h1:l[i+1]?=(l.drop i)[1]?:=by simp [List.getElem?_drop]
 rw[h0,h1]
 unfold Lib.hasPrefix
 generalize l.drop i=m
 match m with
 | []=>simp
 | [x]=>
  show (a==x&&false)=_
  simp
 |x::y::r=>
  show (a==x&&(b==y&&true))=_
  by_cases h1:x=a
  ·by_cases h2:y=b
   ·simp [h1,h2]
   ·have h2':¬b=y:=fun e=>h2 e.symm
    simp [h1,h2,h2']
  ·have h1':¬a=x:=fun e=>h1 e.symm
   simp [h1,h1']
theorem y7 (l:List UInt8):∀n j,l.length-j<=n->da l (da l j)=da l j
 |0,j,h=>by
  have:=eY (B:=l) j
  rw[List.getElem?_eq_none_iff.2 (by omega)] at this
  simp only at this
  rw[this,this]
 |n+1,j,h=>by
  have:=eY (B:=l) j
  cases hx:l[j]? with
  |none=>
   rw[hx] at this
   simp only at this
   rw[this,this]
  |some b=>
   rw[hx] at this
   simp only at this
   split at this
   ·rw[this,this]
   ·rw[this];exact y7 l n (j+1) (by omega)
theorem D3 (l:List UInt8) (c:UInt8):Lib.indexByte l c=if (l.takeWhile fun b=>!(b==c)).length<l.length then ((l.takeWhile fun b=>!(b==c)).length:Int) else -1:=by
 induction l with
 |nil=>rfl
 |cons b r ih=>
  unfold Lib.indexByte
  rw[List.takeWhile_cons]
  by_cases h:(b==c)=true
  ·simp [h]
  ·rw[if_neg h,ih]
   have hb:(!(b==c))=true:=by simp [h]
   simp only[hb,if_true,List.length_cons,Nat.add_lt_add_iff_right]
   split
   ·rw[if_neg (by simp only[beq_iff_eq];omega)];omega
   ·rw[if_pos (by rfl)]
theorem Ea (b:UInt8):0<=Lib.indexByte [32,9,10,13] b↔uj b=true:=by
 unfold uj
 simp only[Lib.indexByte,Bool.or_eq_true,beq_iff_eq]
 by_cases h1:b=32
 ·subst h1;decide
 by_cases h2:b=9
 ·subst h2;decide
 by_cases h3:b=10
 ·subst h3;decide
 by_cases h4:b=13
 ·subst h4;decide
 simp only[h1,h2,h3,h4,eq_comm,or_self,iff_false,if_false]
 simp []
theorem y8 (l:List UInt8):∀n i,i<=l.length->l.length+1<=n+i->lM l n i=(if Lib.index (l.drop i) [42,47] = -1 then none else some (i+(Lib.index (l.drop i) [42,47]).toNat))
 |0,i,hi,hn=>absurd hn (by omega)
 |n+1,i,hi,hn=>by
  rw[lM]
  have hp:=E9 l i 42 47
  unfold Lib.hasPrefix at hp
  by_cases hlt:i<l.length
  ·rw[List.drop_eq_getElem_cons hlt] at hp ⊢
   unfold Lib.index
   rw[hp]
   by_cases hq:l[i]?=some 42/\l[i+1]?=some 47
   ·rw[if_pos hq,av hq];simp
   ·rw[if_neg hq,if_pos hlt,au hq,y8 l n (i+1) (by omega) (by omega)]
    have hg:=Lib.index_ge (l.drop (i+1)) [42,47]
    by_cases hm:Lib.index (l.drop (i+1)) [42,47] = -1
    ·simp [hm]
    ·simp only[hm,Bool.false_eq_true,if_false,beq_iff_eq]
     rw[if_neg (by omega)]
     congr 1
     omega
  ·have hq:¬(l[i]?=some 42/\l[i+1]?=some 47):=fun h=>hlt (List.getElem?_eq_some_iff.1 h.1).1
   rw[if_neg hq,if_neg hlt,List.drop_eq_nil_of_le (by omega)]
   rfl
def EL:Option (Nat×Bool)->S
 |some (p,b)=>.tu [([.v (.int .i64 (p:Nat))],true),([.v (.bool b)],true)]
 |none=>.tu []
set_option maxHeartbeats 4000000 in
theorem Eb (s:ByteArray) (a:Nat) (hs:s.size<=1048576) (ha:a<=s.size):Cl Tryz.prog 238 [vs s,vi a] [] fun r _=>r=EL (fv s.data.toList (s.data.toList.length+1) a):=by
 obtain⟨l,hl⟩:∃l,l=s.data.toList:=⟨_,rfl⟩
 have hll:l.length=s.size:=by rw[hl];exact aD s
 rw[<-hl]
 obtain⟨rr,ok,hrr,hr1,hr2⟩:=eu (B:=l) (l.length+1) a (by omega) (by omega)
 rw[hrr]
 refine ah ab false Tryz.func238 rfl (by kernel_rfl) ?_
 simp only[Tryz.f238,tt,seval]
 refine dLoop.intro (fun f' L p=>∃(j n:Nat),f' 1=vi j/\j<=s.size/\fv l n j=some (rr,ok)/\l.length+1<=n+j/\L=[]/\p=none) (fun f' _ _=>(s.size-bq (f' 1)).toNat) [] none ⟨al _,an _,?_⟩ ?_
 ·simp only[tt,seval]
  exact⟨a,l.length+1,rfl,ha,hrr,by omega⟩
 ·rintro g L p ⟨j,n,h1,hj,he,hn,rfl,rfl⟩
  simp only[tt,seval] at h1
  cases n with
  |zero=>exact absurd hn (by omega)
  |succ n=>
  rw[fv] at he
  simp only[tt,seval,h1,Int.ofNat_lt]
  refine fun _=>aa (fun hlt=>?_) (fun hge=>?_)
  ·have hil:j<l.length:=by omega
   have hrs:(⟨(l.drop j).toArray⟩:ByteArray).size<=1048576:=by show (l.drop j).toArray.size<=_;simp;omega
   rw[az hil] at he
   simp only at he
   rw[jP (by kernel_rfl) (show s.size<=9223372036854775807 by omega) (by omega) (by omega),Int.toNat_natCast,tl hl]
   simp only[tt,seval,h1]
   rw[cv hl hil]
   simp only[tt,seval]
   have cw:=oL ⟨#[32,9,10,13]⟩ l[j]
   have hwi:=Ea l[j]
   refine cZ (cw) ?_ ?_<;>simp only[tt,seval,h1]
   by_cases hw:uj l[j]=true
   ·rw[if_pos hw] at he
    have e1:(0<=Lib.indexByte [32,9,10,13] l[j])=True:=eq_true (hwi.2 hw)
    simp only[tt,seval,e1]
    rw[aq (n:=(j:Int)+1) (by omega) (by omega)]
    exact⟨[],none,al _,an _,⟨j+1,n,rfl,by omega,he,by omega,rfl,rfl⟩,by simp only[bq];omega⟩
   ·rw[if_neg hw] at he
    have e1:(0<=Lib.indexByte [32,9,10,13] l[j])=False:=eq_false fun h=>hw (hwi.1 h)
    simp only[tt,seval,e1]
    have c1:=kK ⟨(l.drop j).toArray⟩ ⟨#[45,45]⟩
    have e2:Lib.hasPrefix (⟨(l.drop j).toArray⟩:ByteArray).data.toList (⟨#[45,45]⟩:ByteArray).data.toList=decide (l[j]=45/\l[j+1]?=some 45):=by
     show Lib.hasPrefix (l.drop j) [45,45]=_
     rw[E9,az hil];simp
    rw[e2] at c1
    refine cZ (c1) ?_ ?_<;>simp only[tt,seval]
    by_cases hd:l[j]=45/\l[j+1]?=some 45
    ·have d1:decide (l[j]=45/\l[j+1]?=some 45)=true:=av hd
     have d1':(l[j]=45/\l[j+1]?=some 45)=True:=eq_true hd
     rw[if_pos hd] at he
     have hne:¬l[j]=10:=by rw[hd.1];decide
     have eol:=eY (B:=l) j
     rw[az hil] at eol
     simp only[hne,if_false] at eol
     have gol:=mH (B:=l) (j+1)
     have gl2:=uk (B:=l) (i:=j) (by omega)
     simp only[tt,seval,d1']
     have c2:=oL ⟨(l.drop j).toArray⟩ 10
     have e3:Lib.indexByte (⟨(l.drop j).toArray⟩:ByteArray).data.toList 10=if da l j<l.length then ((da l j:Nat):Int)-j else -1:=by
      show Lib.indexByte (l.drop j) 10=_
      rw[D3,List.length_drop]
      have:da l j=j+((l.drop j).takeWhile fun b=>!(b==10)).length:=rfl
      split<;>split<;>omega
     rw[e3] at c2
     refine cZ (c2) ?_ ?_<;>simp only[tt,seval,h1]
     cases n with
     |zero=>exact absurd hn (by omega)
     |succ n=>
     rw[fv] at he
     by_cases hE:da l j<l.length
     ·have hv:l[da l j]?=some 10:=by
       have:=eY (B:=l) (da l j)
       have h2:=y7 l _ j (Nat.le_refl _)
       rw[az hE] at this ⊢
       simp only at this
       split at this
       ·rename_i h;rw[h]
       ·have:=mH (B:=l) (da l j+1);omega
      rw[hv] at he
      simp only[show uj 10=true from rfl,if_true] at he
      have f1:((if da l j<l.length then ((da l j:Nat):Int)-j else -1)<0)=False:=eq_false (by rw[if_pos hE];omega)
      have f1':(((da l j:Nat):Int)-j<0)=False:=eq_false (by omega)
      simp only[tt,seval,f1',hE]
      rw[aq (n:=((da l j:Nat):Int)-j+1) (by omega) (by omega),aq (n:=(j:Int)+(((da l j:Nat):Int)-j+1)) (by omega) (by omega)]
      exact⟨[],none,al _,an _,⟨da l j+1,n,kh (by omega),by omega,he,by omega,rfl,rfl⟩,by simp only[bq];omega⟩
     ·rw[List.getElem?_eq_none_iff.2 (by omega)] at he
      simp only at he
      injection he with he;injection he with he1 he2;subst he1 he2
      have f1:((if da l j<l.length then ((da l j:Nat):Int)-j else -1)<0)=True:=eq_true (by rw[if_neg hE];omega)
      simp only[tt,seval,f1]
      refine fun _=>⟨.tu [([.v (.int .i64 (s.size:Nat))],true),([.v (.bool true)],true)],[],?_,ak rfl⟩
      rw[show da l j=s.size by omega];rfl
    ·have d1:decide (l[j]=45/\l[j+1]?=some 45)=false:=au hd
     have d1':(l[j]=45/\l[j+1]?=some 45)=False:=eq_false hd
     rw[if_neg hd] at he
     simp only[tt,seval,d1']
     have c2:=kK ⟨(l.drop j).toArray⟩ ⟨#[47,42]⟩
     have e3:Lib.hasPrefix (⟨(l.drop j).toArray⟩:ByteArray).data.toList (⟨#[47,42]⟩:ByteArray).data.toList=decide (l[j]=47/\l[j+1]?=some 42):=by
      show Lib.hasPrefix (l.drop j) [47,42]=_
      rw[E9,az hil];simp
     rw[e3] at c2
     refine cZ (c2) ?_ ?_<;>simp only[tt,seval,h1]
     by_cases hc:l[j]=47/\l[j+1]?=some 42
     ·have d2:decide (l[j]=47/\l[j+1]?=some 42)=true:=av hc
      have d2':(l[j]=47/\l[j+1]?=some 42)=True:=eq_true hc
      rw[if_pos hc] at he
      have hj2:j+1<l.length:=(List.getElem?_eq_some_iff.1 hc.2).1
      simp only[tt,seval,d2']
      have hrz:(⟨(l.drop j).toArray⟩:ByteArray).size=l.length-j:=by show (l.drop j).toArray.size=_;simp
      rw[jP (by kernel_rfl) (show ByteArray.size _<=9223372036854775807 by omega) (by omega) (by omega)]
      have e4:(⟨(l.drop j).toArray⟩:ByteArray).extract (2:Int).toNat (⟨(l.drop j).toArray⟩:ByteArray).size=⟨(l.drop (j+2)).toArray⟩:=by
       rw[tl (l:=l.drop j) (by simp)]
       simp [List.drop_drop]
      rw[e4]
      simp only[tt,seval]
      have c3:=BB ⟨(l.drop (j+2)).toArray⟩ ⟨#[42,47]⟩ (by show (l.drop (j+2)).toArray.size<=_;simp;omega)
      have e5:Lib.index (⟨(l.drop (j+2)).toArray⟩:ByteArray).data.toList (⟨#[42,47]⟩:ByteArray).data.toList=Lib.index (l.drop (j+2)) [42,47]:=rfl
      rw[e5] at c3
      have hx:=y8 l (l.length+1) (j+2) (by omega) (by omega)
      have hg:=Lib.index_ge (l.drop (j+2)) [42,47]
      generalize Lib.index (l.drop (j+2)) [42,47]=ix at *
      refine cZ (c3) ?_ ?_<;>simp only[tt,seval,h1]
      rw[hx] at he
      by_cases hm:ix = -1
      ·rw[if_pos hm] at he
       simp only at he
       injection he with he;injection he with he1 he2;subst he1 he2
       have f1:(ix<0)=True:=eq_true (by omega)
       simp only[tt,seval,f1]
       exact⟨_,_,rfl,ak rfl⟩
      ·rw[if_neg hm] at he hx
       have hsp:=m8 hx
       simp only at he
       have f1:(ix<0)=False:=eq_false (by omega)
       simp only[tt,seval,f1]
       rw[aq (n:=ix+4) (by omega) (by omega),aq (n:=(j:Int)+(ix+4)) (by omega) (by omega)]
       exact⟨[],none,al _,an _,⟨j+2+ix.toNat+2,n,kh (by omega),by omega,he,by omega,rfl,rfl⟩,by simp only[bq];omega⟩
     ·have d2:decide (l[j]=47/\l[j+1]?=some 42)=false:=au hc
      have d2':(l[j]=47/\l[j+1]?=some 42)=False:=eq_false hc
      rw[if_neg hc] at he
      injection he with he;injection he with he1 he2;subst he1 he2
      simp only[tt,seval,d2']
      exact⟨_,_,rfl,ak rfl⟩
  ·have:j=s.size:=by omega
   subst this
   rw[List.getElem?_eq_none_iff.2 (by omega)] at he
   simp only at he
   injection he with he;injection he with he1 he2;subst he1 he2
   exact⟨_,_,rfl,ak rfl⟩
end Go.Proofs.YtbodcedhmccenaaGreatDoor
set_option maxRecDepth 8000
namespace Go.Proofs.YtbodcedhmccenaaGreatDoor
open Go Go.Dv
open Go.Vc (D d5 d6 cM bo)
theorem FD {l:List UInt8} {a:Nat} (k:Nat) (s:List UInt8) (h:s <+: l.drop a) (hs:s.length=k):(⟨s.toArray⟩:ByteArray)=aZ l a (a+k):=by
 unfold aZ
 rw[Nat.add_sub_cancel_left,<-hs,<-List.prefix_iff_eq_take.1 h]
structure BestI (S:List ByteArray) (m:List UInt8) (t:ByteArray):Prop where
 got:t=⟨#[]⟩∨(t∈S/\t.data.toList <+: m)
 most:∀s∈S,s.data.toList <+: m->s.size<=t.size
theorem BestI.nil (m:List UInt8):BestI [] m ⟨#[]⟩:=⟨.inl rfl,fun _ h=>by cases h⟩
theorem BestI.yes {S:List ByteArray} {m:List UInt8} {t s:ByteArray} (h:BestI S m t) (hp:s.data.toList <+: m) (hl:t.size<s.size):BestI (S++[s]) m s:=
 ⟨.inr ⟨by simp,hp⟩,fun x hx hm=>by
   rcases List.mem_append.1 hx with hx|hx
   ·have:=h.most x hx hm;omega
   ·rw[List.mem_singleton.1 hx];exact Nat.le_refl _⟩
theorem BestI.no {S:List ByteArray} {m:List UInt8} {t s:ByteArray} (h:BestI S m t) (hp:s.data.toList <+: m->s.size<=t.size):BestI (S++[s]) m t:=
 ⟨h.got.imp id fun ⟨h1,h2⟩=>⟨by simp [h1],h2⟩,fun x hx hm=>by
   rcases List.mem_append.1 hx with hx|hx
   ·exact h.most x hx hm
   ·rw[List.mem_singleton.1 hx] at hm ⊢;exact hp hm⟩
theorem jQ:∀s∈signs,1<=s.size/\s.size<=2:=by decide
theorem lu {s:ByteArray}:fp s=true↔s∈signs:=by
 unfold fp
 simp [List.any_eq_true]
theorem y9 (l:List UInt8) (a k:Nat):(aZ l a (a+k)).data.toList <+: l.drop a:=by
 unfold aZ
 rw[Nat.add_sub_cancel_left]
 exact List.take_prefix _ _
theorem zx {l:List UInt8} {a:Nat} {t:ByteArray} (ha:a<l.length) (h:BestI signs (l.drop a) t):(t=aZ l a (dk l a)/\a+t.size=dk l a)∨(fp t=false/\fp (aZ l a (dk l a))=false):=by
 have hlen:∀k,a+k<=l.length->(aZ l a (a+k)).size=k:=fun k hk=>by
  unfold aZ
  show ((l.drop a).take (a+k-a)).toArray.size=_
  simp;omega
 have ht2:t.size<=2:=by
  rcases h.got with rfl|⟨h1,_⟩
  ·exact Nat.zero_le _
  ·exact (jQ _ h1).2
 have cutt:∀k,t.size=k->1<=k->t=aZ l a (a+k)/\t∈signs:=fun k hk h1=>by
  rcases h.got with rfl|⟨h2,h3⟩
  ·exact absurd hk (by show ¬(0=k);omega)
  ·exact⟨FD k t.data.toList h3 (by rw[<-hk];simp),h2⟩
 unfold dk
 by_cases c2:a+2<=l.length/\fp (aZ l a (a+2))=true
 ·rw[if_pos c2]
  have:=h.most _ (lu.1 c2.2) (y9 l a 2)
  rw[hlen 2 c2.1] at this
  have hz:t.size=2:=by omega
  exact .inl ⟨(cutt 2 hz (by omega)).1,by omega⟩
 ·rw[if_neg c2]
  have h2:t.size≠2:=fun hz=>by
   obtain⟨e,hm⟩:=cutt 2 hz (by omega)
   refine c2 ⟨?_,by rw[<-e];exact lu.2 hm⟩
   have:(aZ l a (a+2)).size<=l.length-a:=by
    unfold aZ
    show ((l.drop a).take (a+2-a)).toArray.size<=_
    simp;omega
   rw[<-e] at this
   omega
  by_cases c1:fp (aZ l a (a+1))=true
  ·have:=h.most _ (lu.1 c1) (y9 l a 1)
   rw[hlen 1 (by omega)] at this
   have hz:t.size=1:=by omega
   exact .inl ⟨(cutt 1 hz (by omega)).1,by omega⟩
  ·refine .inr ⟨?_,by simpa using c1⟩
   by_cases hz:t.size=1
   ·obtain⟨e,hm⟩:=cutt 1 hz (by omega)
    exact absurd (by rw[<-e];exact lu.2 hm) c1
   ·rcases h.got with rfl|⟨h3,_⟩
    ·rfl
    ·have:=(jQ _ h3).1;omega
set_option maxHeartbeats 8000000 in
theorem vj (s:ByteArray) (a:Nat) (b:UInt8) (hs:s.size<=1048576) (hb:s.data.toList[a]?=some b):Cl Tryz.prog 239 [vs s,vi a] [] fun r _=>∃(t:Tok) (e:Int) (ok:Bool),r = .tu [(ar t.row,false),([.v (.int .i64 e)],true),([.v (.bool ok)],true)]/\ok=(bk s.data.toList a b).isSome/\∀t' e',bk s.data.toList a b=some (t',e')->t=t'/\e=e':=by
 obtain⟨l,hl⟩:∃l,l=s.data.toList:=⟨_,rfl⟩
 have hll:l.length=s.size:=by rw[hl];exact aD s
 rw[<-hl] at hb ⊢
 obtain⟨ha,hba⟩:=List.getElem?_eq_some_iff.1 hb
 refine ah ab false Tryz.func239 rfl (by kernel_rfl) ?_
 simp only[Tryz.f239,tt,seval]
 rw[cv hl ha,hba]
 simp only[tt,seval]
 refine cZ (u6 b.toNat) ?_ ?_<;>simp only[tt,seval]
 cases hP:ki b.toNat||decide ((48:Int)<=(b.toNat:Int)/\(b.toNat:Int)<=57) with
 |true=>
  simp only[tt,seval]
  have hrl:=mI (B:=l) a
  have hrh:=mJ (B:=l) (i:=a) (by omega)
  refine dLoop.intro (fun f' L p=>∃j:Nat,f' 8=vi j/\j<=s.size/\bf l j=bf l a/\L=[(7,.str [.v (.int .i64 0),.v (.string ByteArray.empty),.v (.int .i64 a)]),(4,.str [.v (.int .i64 0),.v (.string ByteArray.empty),.v (.int .i64 0)])]/\p=none) (fun f' _ _=>(s.size-bq (f' 8)).toNat) [(7,.str [.v (.int .i64 0),.v (.string ByteArray.empty),.v (.int .i64 a)]),(4,.str [.v (.int .i64 0),.v (.string ByteArray.empty),.v (.int .i64 0)])] none ⟨ac rfl (ac rfl (al _)),an _,?_⟩ ?_
  ·simp only[tt,seval]
   exact⟨a,rfl,by omega,rfl⟩
  ·rintro g L p ⟨j,h8,hj,he,rfl,rfl⟩
   simp only[tt,seval] at h8
   simp only[tt,seval,h8,Int.ofNat_lt]
   refine fun _=>?_
   by_cases hlt:j<s.size
   ·have hil:j<l.length:=by omega
    simp only[tt,seval,h8,hlt]
    rw[cv hl hil]
    simp only[tt,seval]
    refine cZ (u6 l[j].toNat) ?_ ?_<;>simp only[tt,seval,h8]
    cases hL:ki l[j].toNat||decide ((48:Int)<=(l[j].toNat:Int)/\(l[j].toNat:Int)<=57) with
    |true=>
     simp only[tt,seval]
     rw[aq (n:=(j:Int)+1) (by omega) (by omega)]
     exact⟨[(7,.str [.v (.int .i64 0),.v (.string ByteArray.empty),.v (.int .i64 a)]),(4,.str [.v (.int .i64 0),.v (.string ByteArray.empty),.v (.int .i64 0)])],none,ac rfl (ac rfl (al _)),an _,⟨j+1,rfl,by omega,by rw[oe hil hL,he],rfl,rfl⟩,by simp only[bq];omega⟩
    |false=>
     have ej:j=bf l a:=by rw[<-he,vg hil hL]
     subst ej
     simp only[tt,seval]
     have hsz:(aZ l a (bf l a)).size<=1048576:=by rw[ik];omega
     refine dDrawn.intro [] (iO [0,2,4,6,8,11,12,15]) (by kernel_rfl) ?_
     simp only[tt,seval]
     all_goals try simp only[tt,seval,h8]
     all_goals rw[gw (by kernel_rfl) (show s.size<=9223372036854775807 by omega) (by omega) (by omega) (by omega),Int.toNat_natCast,Int.toNat_natCast,ij hl]
     generalize hx:aZ l a (bf l a)=x at *
     simp only[tt,seval]
     refine cZ (nE b.toNat) ?_ ?_<;>simp only[tt,seval]
     cases hF:decide ((48:Int)<=(b.toNat:Int)/\(b.toNat:Int)<=57) with
     |true=>
      have hF':=of_decide_eq_true hF
      have hL:ki b.toNat=false:=by unfold ki;simp only[Bool.or_eq_false_iff,decide_eq_false_iff_not];omega
      have eF:((48:Int)<=(b.toNat:Int)/\(b.toNat:Int)<=57)=True:=eq_true hF'
      have hraw:cB l a b=some (⟨3,x,a⟩,bf l a):=by
       unfold cB
       simp only[fu,gz,hL,hF,if_true,Bool.false_eq_true,if_false,hx]
      simp only[tt,seval,eF]
      refine dDrawn.intro [] (iO [0,2,4,7,9,10,12]) (by kernel_rfl) ?_
      simp only[tt,seval]
      all_goals try simp only[tt,seval,h8]
      all_goals repeat' first|refine cj ?_ ?_|refine aO ?_ ?_
      all_goals
       refine cZ (dj (Tok.mk 3 x a) hsz) ?_ ?_<;>simp only[tt,seval,Tok.row]
      all_goals
       cases ho:bg (Tok.mk 3 x a) with
       |true=>
        have e1:bk l a b=some ((Tok.mk 3 x a),bf l a):=dc hraw ho
        rw[e1]
        refine⟨.tu [(ar (Tok.mk 3 x a).row,false),([.v (.int .i64 ((bf l a:Nat):Int))],true),([.v (.bool true)],true)],[],⟨(Tok.mk 3 x a),_,_,rfl,by rfl,fun t' e' h=>by cases h;exact⟨rfl,rfl⟩⟩,ai ?_⟩
        simp only[tt,seval,Tok.row]
       |false=>
        have e1:bk l a b=none:=dZ hraw ho
        rw[e1]
        refine⟨.tu [(ar (Tok.mk 3 x a).row,false),([.v (.int .i64 ((bf l a:Nat):Int))],true),([.v (.bool false)],true)],[],⟨(Tok.mk 3 x a),_,_,rfl,by rfl,by first|exact fun t' e' h=>by cases h|exact fun _ _ h=>(by cases h)⟩,ai ?_⟩
        simp only[tt,seval,Tok.row]
     |false=>
      have hF':=of_decide_eq_false hF
      have hL:ki b.toNat=true:=by rw[hF,Bool.or_false] at hP;exact hP
      have eF:((48:Int)<=(b.toNat:Int)/\(b.toNat:Int)<=57)=False:=eq_false hF'
      have hraw:cB l a b=some (if lK x=0 then ⟨2,x,a⟩ else ⟨1,bW x,a⟩,bf l a):=by
       unfold cB
       simp only[fu,hL,if_true,hx]
      simp only[tt,seval,eF]
      refine cZ (pB x hsz) ?_ ?_<;>simp only[tt,seval]
      by_cases hk:lK x=0
      ·rw[if_pos hk] at hraw
       have ek:(!decide (lK x=0))=false:=by rw[av hk];rfl
       have ek':(¬lK x=0)=False:=eq_false (not_not_intro hk)
       have ek2:(lK x=0)=True:=eq_true hk
       simp only[tt,seval,ek2]
       refine dDrawn.intro [] (iO [0,2,4,7,9,10,12]) (by kernel_rfl) ?_
       simp only[tt,seval]
       all_goals try simp only[tt,seval,h8]
       all_goals repeat' first|refine cj ?_ ?_|refine aO ?_ ?_
       all_goals
        refine cZ (dj (Tok.mk 2 x a) hsz) ?_ ?_<;>simp only[tt,seval,Tok.row]
       all_goals
        cases ho:bg (Tok.mk 2 x a) with
        |true=>
         have e1:bk l a b=some ((Tok.mk 2 x a),bf l a):=dc hraw ho
         rw[e1]
         refine⟨.tu [(ar (Tok.mk 2 x a).row,false),([.v (.int .i64 ((bf l a:Nat):Int))],true),([.v (.bool true)],true)],[],⟨(Tok.mk 2 x a),_,_,rfl,by rfl,fun t' e' h=>by cases h;exact⟨rfl,rfl⟩⟩,ai ?_⟩
         simp only[tt,seval,Tok.row]
        |false=>
         have e1:bk l a b=none:=dZ hraw ho
         rw[e1]
         refine⟨.tu [(ar (Tok.mk 2 x a).row,false),([.v (.int .i64 ((bf l a:Nat):Int))],true),([.v (.bool false)],true)],[],⟨(Tok.mk 2 x a),_,_,rfl,by rfl,by first|exact fun t' e' h=>by cases h|exact fun _ _ h=>(by cases h)⟩,ai ?_⟩
         simp only[tt,seval,Tok.row]
      ·rw[if_neg hk] at hraw
       have ek2:(lK x=0)=False:=eq_false hk
       simp only[tt,seval,ek2]
       refine cZ (ph x hsz) ?_ ?_<;>simp only[tt,seval]
       refine dDrawn.intro [] (iO [0,2,4,7,9,10,12]) (by kernel_rfl) ?_
       simp only[tt,seval]
       all_goals try simp only[tt,seval,h8]
       all_goals repeat' first|refine cj ?_ ?_|refine aO ?_ ?_
       all_goals
        refine cZ (dj (Tok.mk 1 (bW x) a) (by show (bW x).size<=_;rw[fJ];exact hsz)) ?_ ?_<;>simp only[tt,seval,Tok.row]
       all_goals
        cases ho:bg (Tok.mk 1 (bW x) a) with
        |true=>
         have e1:bk l a b=some ((Tok.mk 1 (bW x) a),bf l a):=dc hraw ho
         rw[e1]
         refine⟨.tu [(ar (Tok.mk 1 (bW x) a).row,false),([.v (.int .i64 ((bf l a:Nat):Int))],true),([.v (.bool true)],true)],[],⟨(Tok.mk 1 (bW x) a),_,_,rfl,by rfl,fun t' e' h=>by cases h;exact⟨rfl,rfl⟩⟩,ai ?_⟩
         simp only[tt,seval,Tok.row]
        |false=>
         have e1:bk l a b=none:=dZ hraw ho
         rw[e1]
         refine⟨.tu [(ar (Tok.mk 1 (bW x) a).row,false),([.v (.int .i64 ((bf l a:Nat):Int))],true),([.v (.bool false)],true)],[],⟨(Tok.mk 1 (bW x) a),_,_,rfl,by rfl,by first|exact fun t' e' h=>by cases h|exact fun _ _ h=>(by cases h)⟩,ai ?_⟩
         simp only[tt,seval,Tok.row]
   ·have ej:j=bf l a:=by rw[<-he,rY (by omega)]
    subst ej
    simp only[tt,seval,h8,hlt]
    have hsz:(aZ l a (bf l a)).size<=1048576:=by rw[ik];omega
    refine dDrawn.intro [] (iO [0,2,4,6,8,11,12,15]) (by kernel_rfl) ?_
    simp only[tt,seval]
    all_goals try simp only[tt,seval,h8]
    all_goals rw[gw (by kernel_rfl) (show s.size<=9223372036854775807 by omega) (by omega) (by omega) (by omega),Int.toNat_natCast,Int.toNat_natCast,ij hl]
    generalize hx:aZ l a (bf l a)=x at *
    simp only[tt,seval]
    refine cZ (nE b.toNat) ?_ ?_<;>simp only[tt,seval]
    cases hF:decide ((48:Int)<=(b.toNat:Int)/\(b.toNat:Int)<=57) with
    |true=>
     have hF':=of_decide_eq_true hF
     have hL:ki b.toNat=false:=by unfold ki;simp only[Bool.or_eq_false_iff,decide_eq_false_iff_not];omega
     have eF:((48:Int)<=(b.toNat:Int)/\(b.toNat:Int)<=57)=True:=eq_true hF'
     have hraw:cB l a b=some (⟨3,x,a⟩,bf l a):=by
      unfold cB
      simp only[fu,gz,hL,hF,if_true,Bool.false_eq_true,if_false,hx]
     simp only[tt,seval,eF]
     refine dDrawn.intro [] (iO [0,2,4,7,9,10,12]) (by kernel_rfl) ?_
     simp only[tt,seval]
     all_goals try simp only[tt,seval,h8]
     all_goals repeat' first|refine cj ?_ ?_|refine aO ?_ ?_
     all_goals
      refine cZ (dj (Tok.mk 3 x a) hsz) ?_ ?_<;>simp only[tt,seval,Tok.row]
     all_goals
      cases ho:bg (Tok.mk 3 x a) with
      |true=>
       have e1:bk l a b=some ((Tok.mk 3 x a),bf l a):=dc hraw ho
       rw[e1]
       refine⟨.tu [(ar (Tok.mk 3 x a).row,false),([.v (.int .i64 ((bf l a:Nat):Int))],true),([.v (.bool true)],true)],[],⟨(Tok.mk 3 x a),_,_,rfl,by rfl,fun t' e' h=>by cases h;exact⟨rfl,rfl⟩⟩,ai ?_⟩
       simp only[tt,seval,Tok.row]
      |false=>
       have e1:bk l a b=none:=dZ hraw ho
       rw[e1]
       refine⟨.tu [(ar (Tok.mk 3 x a).row,false),([.v (.int .i64 ((bf l a:Nat):Int))],true),([.v (.bool false)],true)],[],⟨(Tok.mk 3 x a),_,_,rfl,by rfl,by first|exact fun t' e' h=>by cases h|exact fun _ _ h=>(by cases h)⟩,ai ?_⟩
       simp only[tt,seval,Tok.row]
    |false=>
     have hF':=of_decide_eq_false hF
     have hL:ki b.toNat=true:=by rw[hF,Bool.or_false] at hP;exact hP
     have eF:((48:Int)<=(b.toNat:Int)/\(b.toNat:Int)<=57)=False:=eq_false hF'
     have hraw:cB l a b=some (if lK x=0 then ⟨2,x,a⟩ else ⟨1,bW x,a⟩,bf l a):=by
      unfold cB
      simp only[fu,hL,if_true,hx]
     simp only[tt,seval,eF]
     refine cZ (pB x hsz) ?_ ?_<;>simp only[tt,seval]
     by_cases hk:lK x=0
     ·rw[if_pos hk] at hraw
      have ek:(!decide (lK x=0))=false:=by rw[av hk];rfl
      have ek':(¬lK x=0)=False:=eq_false (not_not_intro hk)
      have ek2:(lK x=0)=True:=eq_true hk
      simp only[tt,seval,ek2]
      refine dDrawn.intro [] (iO [0,2,4,7,9,10,12]) (by kernel_rfl) ?_
      simp only[tt,seval]
      all_goals try simp only[tt,seval,h8]
      all_goals repeat' first|refine cj ?_ ?_|refine aO ?_ ?_
      all_goals
       refine cZ (dj (Tok.mk 2 x a) hsz) ?_ ?_<;>simp only[tt,seval,Tok.row]
      all_goals
       cases ho:bg (Tok.mk 2 x a) with
       |true=>
        have e1:bk l a b=some ((Tok.mk 2 x a),bf l a):=dc hraw ho
        rw[e1]
        refine⟨.tu [(ar (Tok.mk 2 x a).row,false),([.v (.int .i64 ((bf l a:Nat):Int))],true),([.v (.bool true)],true)],[],⟨(Tok.mk 2 x a),_,_,rfl,by rfl,fun t' e' h=>by cases h;exact⟨rfl,rfl⟩⟩,ai ?_⟩
        simp only[tt,seval,Tok.row]
       |false=>
        have e1:bk l a b=none:=dZ hraw ho
        rw[e1]
        refine⟨.tu [(ar (Tok.mk 2 x a).row,false),([.v (.int .i64 ((bf l a:Nat):Int))],true),([.v (.bool false)],true)],[],⟨(Tok.mk 2 x a),_,_,rfl,by rfl,by first|exact fun t' e' h=>by cases h|exact fun _ _ h=>(by cases h)⟩,ai ?_⟩
        simp only[tt,seval,Tok.row]
     ·rw[if_neg hk] at hraw
      have ek2:(lK x=0)=False:=eq_false hk
      simp only[tt,seval,ek2]
      refine cZ (ph x hsz) ?_ ?_<;>simp only[tt,seval]
      refine dDrawn.intro [] (iO [0,2,4,7,9,10,12]) (by kernel_rfl) ?_
      simp only[tt,seval]
      all_goals try simp only[tt,seval,h8]
      all_goals repeat' first|refine cj ?_ ?_|refine aO ?_ ?_
      all_goals
       refine cZ (dj (Tok.mk 1 (bW x) a) (by show (bW x).size<=_;rw[fJ];exact hsz)) ?_ ?_<;>simp only[tt,seval,Tok.row]
      all_goals
       cases ho:bg (Tok.mk 1 (bW x) a) with
       |true=>
        have e1:bk l a b=some ((Tok.mk 1 (bW x) a),bf l a):=dc hraw ho
        rw[e1]
        refine⟨.tu [(ar (Tok.mk 1 (bW x) a).row,false),([.v (.int .i64 ((bf l a:Nat):Int))],true),([.v (.bool true)],true)],[],⟨(Tok.mk 1 (bW x) a),_,_,rfl,by rfl,fun t' e' h=>by cases h;exact⟨rfl,rfl⟩⟩,ai ?_⟩
        simp only[tt,seval,Tok.row]
       |false=>
        have e1:bk l a b=none:=dZ hraw ho
        rw[e1]
        refine⟨.tu [(ar (Tok.mk 1 (bW x) a).row,false),([.v (.int .i64 ((bf l a:Nat):Int))],true),([.v (.bool false)],true)],[],⟨(Tok.mk 1 (bW x) a),_,_,rfl,by rfl,by first|exact fun t' e' h=>by cases h|exact fun _ _ h=>(by cases h)⟩,ai ?_⟩
        simp only[tt,seval,Tok.row]
 |false=>
  obtain⟨hL,hF⟩:=Bool.or_eq_false_iff.1 hP
  simp only[tt,seval]
  by_cases hb34:b=34
  ·have d34:decide ((b.toNat:Int)=34)=true:=av (by rw[hb34];rfl)
   have e39:((b.toNat:Int)=39)=False:=eq_false (by rw[hb34];decide)
   simp only[tt,seval,d34]
   have cq:=ni s a b hs (by rw[<-hl];exact hb)
   rw[<-hl] at cq
   refine cZ (cq) ?_ ?_<;>simp only[tt,seval]
   have hqs:=fun x e=>dH (B:=l) (q:=b) (n:=l.length+1) (i:=a+1) (l:=[]) (x:=x) (e:=e)
   cases hq:dv l b (l.length+1) (a+1) [] with
   |none=>
    have hr:cB l a b=none:=by rw[hb34] at hq ⊢;rw[th,hq];rfl
    have e1:bk l a b=none:=by unfold bk;rw[hr]
    rw[e1]
    simp only[tt,seval,vh]
    refine⟨.tu [(ar (Tok.mk 0 ⟨#[]⟩ 0).row,false),([.v (.int .i64 0)],true),([.v (.bool false)],true)],[],⟨Tok.mk 0 ⟨#[]⟩ 0,_,_,by first|exact⟨rfl,rfl,fun _ _ h=>by cases h⟩|exact⟨rfl,rfl⟩|rfl⟩,ai ?_⟩
    simp only[tt,seval,Tok.row]
    first|done|rfl
   |some y=>
    obtain⟨x,e⟩:=y
    have hr:cB l a b=some (⟨2,⟨x.toArray⟩,a⟩,e):=by rw[hb34] at hq ⊢;rw[th,hq];rfl
    have hqs:=hqs x e hq
    simp only[tt,seval,vh,e39]
    refine dDrawn.intro [] (iO [0,2,4,7,9,10,12]) (by kernel_rfl) ?_
    simp only[tt,seval]
    all_goals repeat' first|refine cj ?_ ?_|refine aO ?_ ?_
    all_goals
     refine cZ (dj (Tok.mk 2 ⟨x.toArray⟩ a) (by show x.length<=_;simp only[List.length_nil] at hqs;omega)) ?_ ?_<;>simp only[tt,seval,Tok.row]
    all_goals
     cases ho:bg (Tok.mk 2 ⟨x.toArray⟩ a) with
     |true=>
      have e1:bk l a b=some ((Tok.mk 2 ⟨x.toArray⟩ a),e):=dc hr ho
      rw[e1]
      refine⟨.tu [(ar (Tok.mk 2 ⟨x.toArray⟩ a).row,false),([.v (.int .i64 ((e:Nat):Int))],true),([.v (.bool true)],true)],[],⟨(Tok.mk 2 ⟨x.toArray⟩ a),_,_,rfl,by rfl,fun t' e' h=>by cases h;exact⟨rfl,rfl⟩⟩,ai ?_⟩
      simp only[tt,seval,Tok.row]
     |false=>
      have e1:bk l a b=none:=dZ hr ho
      rw[e1]
      refine⟨.tu [(ar (Tok.mk 2 ⟨x.toArray⟩ a).row,false),([.v (.int .i64 ((e:Nat):Int))],true),([.v (.bool false)],true)],[],⟨(Tok.mk 2 ⟨x.toArray⟩ a),_,_,rfl,by rfl,by first|exact fun t' e' h=>by cases h|exact fun _ _ h=>(by cases h)⟩,ai ?_⟩
      simp only[tt,seval,Tok.row]
  ·have d34:decide ((b.toNat:Int)=34)=false:=au fun h=>hb34 (UInt8.toNat_inj.1 (by show b.toNat=34;omega))
   by_cases hb39:b=39
   ·have d39:decide ((b.toNat:Int)=39)=true:=av (by rw[hb39];rfl)
    have e39:((b.toNat:Int)=39)=True:=eq_true (by rw[hb39];rfl)
    simp only[tt,seval,d34,d39]
    have cq:=ni s a b hs (by rw[<-hl];exact hb)
    rw[<-hl] at cq
    refine cZ (cq) ?_ ?_<;>simp only[tt,seval]
    have hqs:=fun x e=>dH (B:=l) (q:=b) (n:=l.length+1) (i:=a+1) (l:=[]) (x:=x) (e:=e)
    cases hq:dv l b (l.length+1) (a+1) [] with
    |none=>
     have hr:cB l a b=none:=by rw[hb39] at hq ⊢;rw[tj,hq];rfl
     have e1:bk l a b=none:=by unfold bk;rw[hr]
     rw[e1]
     simp only[tt,seval,vh]
     refine⟨.tu [(ar (Tok.mk 0 ⟨#[]⟩ 0).row,false),([.v (.int .i64 0)],true),([.v (.bool false)],true)],[],⟨Tok.mk 0 ⟨#[]⟩ 0,_,_,by first|exact⟨rfl,rfl,fun _ _ h=>by cases h⟩|exact⟨rfl,rfl⟩|rfl⟩,ai ?_⟩
     simp only[tt,seval,Tok.row]
     first|done|rfl
    |some y=>
     obtain⟨x,e⟩:=y
     have hr:cB l a b=some (⟨4,⟨x.toArray⟩,a⟩,e):=by rw[hb39] at hq ⊢;rw[tj,hq];rfl
     have hqs:=hqs x e hq
     simp only[tt,seval,vh,e39]
     refine dDrawn.intro [] (iO [0,2,4,7,9,10,12]) (by kernel_rfl) ?_
     simp only[tt,seval]
     all_goals repeat' first|refine cj ?_ ?_|refine aO ?_ ?_
     all_goals
      refine cZ (dj (Tok.mk 4 ⟨x.toArray⟩ a) (by show x.length<=_;simp only[List.length_nil] at hqs;omega)) ?_ ?_<;>simp only[tt,seval,Tok.row]
     all_goals
      cases ho:bg (Tok.mk 4 ⟨x.toArray⟩ a) with
      |true=>
       have e1:bk l a b=some ((Tok.mk 4 ⟨x.toArray⟩ a),e):=dc hr ho
       rw[e1]
       refine⟨.tu [(ar (Tok.mk 4 ⟨x.toArray⟩ a).row,false),([.v (.int .i64 ((e:Nat):Int))],true),([.v (.bool true)],true)],[],⟨(Tok.mk 4 ⟨x.toArray⟩ a),_,_,rfl,by rfl,fun t' e' h=>by cases h;exact⟨rfl,rfl⟩⟩,ai ?_⟩
       simp only[tt,seval,Tok.row]
      |false=>
       have e1:bk l a b=none:=dZ hr ho
       rw[e1]
       refine⟨.tu [(ar (Tok.mk 4 ⟨x.toArray⟩ a).row,false),([.v (.int .i64 ((e:Nat):Int))],true),([.v (.bool false)],true)],[],⟨(Tok.mk 4 ⟨x.toArray⟩ a),_,_,rfl,by rfl,by first|exact fun t' e' h=>by cases h|exact fun _ _ h=>(by cases h)⟩,ai ?_⟩
       simp only[tt,seval,Tok.row]
   ·have d39:decide ((b.toNat:Int)=39)=false:=au fun h=>hb39 (UInt8.toNat_inj.1 (by show b.toNat=39;omega))
    have hraw:cB l a b=some (⟨5,aZ l a (dk l a),a⟩,dk l a):=by
     unfold cB
     simp only[fu,gz,hL,hF,hb34,hb39,Bool.false_eq_true,if_false]
    simp only[tt,seval,d34,d39]
    refine cZ (xg) ?_ ?_<;>simp only[tt,seval]
    refine dLoop.intro (fun f' L p=>∃(i:Nat) (t:ByteArray),f' 24=vi i/\i<=16/\BestI (signs.take i) (l.drop a) t/\L=[(7,.str [.v (.int .i64 5),.v (.string t),.v (.int .i64 a)]),(4,.str [.v (.int .i64 0),.v (.string ByteArray.empty),.v (.int .i64 0)])]/\p=none) (fun f' _ _=>(16-bq (f' 24)).toNat) [(7,.str [.v (.int .i64 5),.v (.string ByteArray.empty),.v (.int .i64 a)]),(4,.str [.v (.int .i64 0),.v (.string ByteArray.empty),.v (.int .i64 0)])] none ⟨ac rfl (ac rfl (al _)),an _,?_⟩ ?_
    ·simp only[tt,seval]
     exact⟨0,ByteArray.empty,rfl,by omega,BestI.nil _,rfl⟩
    ·rintro g L p ⟨i,t,h24,hi,hbest,rfl,rfl⟩
     simp only[tt,seval] at h24
     have ht20:t.size<=2:=by
      rcases hbest.got with rfl|⟨h1,_⟩
      ·exact Nat.zero_le _
      ·exact (jQ _ (List.mem_of_mem_take h1)).2
     have i16:((16:Nat):Int)=16:=rfl
     simp only[tt,seval,h24]
     by_cases hlt:i<16
     ·have hls:i<signs.length:=hlt
      have c1:((i:Int)<16)=True:=eq_true (by omega)
      have hst:signs.take (i+1)=signs.take i++[signs[i]]:=List.take_succ_eq_append_getElem hls
      have hx:signs[i]?=some signs[i]:=az hls
      have hsz:=jQ _ (aK hls)
      simp only[tt,seval,c1]
      refine⟨by omega,_,aE eK hx,l6 _ _,?_⟩
      generalize signs[i]=sg at *
      simp only[tt,seval,srow]
      rw[jP (by kernel_rfl) (show s.size<=9223372036854775807 by omega) (by omega) (by omega),Int.toNat_natCast,tl hl]
      simp only[tt,seval]
      have cp:=kK ⟨(l.drop a).toArray⟩ sg
      have epx:Lib.hasPrefix (⟨(l.drop a).toArray⟩:ByteArray).data.toList sg.data.toList=sg.data.toList.isPrefixOf (l.drop a):=rfl
      rw[epx] at cp
      refine cZ (cp) ?_ ?_<;>simp only[tt,seval]
      cases hpx:sg.data.toList.isPrefixOf (l.drop a) with
      |true=>
       have hpx':=List.isPrefixOf_iff_prefix.1 hpx
       simp only[tt,seval,h24]
       refine fun _ _=>aa (fun h=>?_) (fun h=>?_)
       ·rw[f5 i (by omega)]
        exact⟨[(7,.str [.v (.int .i64 5),.v (.string sg),.v (.int .i64 a)]),(4,.str [.v (.int .i64 0),.v (.string ByteArray.empty),.v (.int .i64 0)])],none,ac rfl (ac rfl (al _)),an _,⟨i+1,sg,rfl,by omega,by rw[hst];exact hbest.yes hpx' (by omega),rfl,rfl⟩,by simp only[bq];omega⟩
       ·rw[f5 i (by omega)]
        exact⟨[(7,.str [.v (.int .i64 5),.v (.string t),.v (.int .i64 a)]),(4,.str [.v (.int .i64 0),.v (.string ByteArray.empty),.v (.int .i64 0)])],none,ac rfl (ac rfl (al _)),an _,⟨i+1,t,rfl,by omega,by rw[hst];exact hbest.no fun _=>by omega,rfl,rfl⟩,by simp only[bq];omega⟩
      |false=>
       have hpx':¬sg.data.toList <+: l.drop a:=fun h=>by rw[List.isPrefixOf_iff_prefix.2 h] at hpx;cases hpx
       simp only[tt,seval,h24]
       rw[f5 i (by omega)]
       exact⟨[(7,.str [.v (.int .i64 5),.v (.string t),.v (.int .i64 a)]),(4,.str [.v (.int .i64 0),.v (.string ByteArray.empty),.v (.int .i64 0)])],none,ac rfl (ac rfl (al _)),an _,⟨i+1,t,rfl,by omega,by rw[hst];exact hbest.no fun h=>absurd h hpx',rfl,rfl⟩,by simp only[bq];omega⟩
     ·have hi16:i=16:=by omega
      subst hi16
      have c1:(((16:Nat):Int)<16)=False:=eq_false (by omega)
      have hbest:BestI signs (l.drop a) t:=hbest
      simp only[tt,seval]
      refine fun _=>?_
      rw[aq (n:=(a:Int)+t.size) (by omega) (by omega)]
      refine dDrawn.intro [] (iO [0,2,4,7,9,10,12]) (by kernel_rfl) ?_
      simp only[tt,seval]
      all_goals try simp only[tt,seval,h24]
      all_goals repeat' first|refine cj ?_ ?_|refine aO ?_ ?_
      all_goals
       refine cZ (dj (Tok.mk 5 t a) (by show t.size<=_;omega)) ?_ ?_<;>simp only[tt,seval,Tok.row]
      all_goals
       rcases zx ha hbest with⟨ht,hte⟩|⟨ht,hte⟩
       ·cases ho:bg (Tok.mk 5 t a) with
        |true=>
         have e1:bk l a b=some (Tok.mk 5 t a,dk l a):=dc (by rw[ht];exact hraw) ho
         rw[e1]
         refine⟨.tu [(ar (Tok.mk 5 t a).row,false),([.v (.int .i64 (dk l a:Nat))],true),([.v (.bool true)],true)],[],⟨Tok.mk 5 t a,_,_,rfl,by rfl,fun t' e' h=>by cases h;exact⟨rfl,rfl⟩⟩,ai ?_⟩
         simp only[tt,seval,Tok.row]
         omega
        |false=>
         have e1:bk l a b=none:=dZ hraw (by rw[<-ht];exact ho)
         rw[e1]
         refine⟨.tu [(ar (Tok.mk 5 t a).row,false),([.v (.int .i64 ((a:Int)+t.size))],true),([.v (.bool false)],true)],[],⟨Tok.mk 5 t a,_,_,rfl,by rfl,by first|exact fun t' e' h=>by cases h|exact fun _ _ h=>(by cases h)⟩,ai ?_⟩
         simp only[tt,seval,Tok.row]
       ·have ho:bg (Tok.mk 5 t a)=false:=ht
        have e1:bk l a b=none:=dZ hraw hte
        rw[e1]
        refine⟨.tu [(ar (Tok.mk 5 t a).row,false),([.v (.int .i64 ((a:Int)+t.size))],true),([.v (.bool false)],true)],[],⟨Tok.mk 5 t a,_,_,rfl,by rfl,by first|exact fun t' e' h=>by cases h|exact fun _ _ h=>(by cases h)⟩,ai ?_⟩
        simp only[tt,seval,Tok.row,ho]
set_option maxHeartbeats 4000000 in
theorem BC (s:ByteArray):Cl Tryz.prog 143 [vs s] [] fun r _=>r = .tu [([.sl (rb (fw s)).1.length ((rb (fw s)).1.flatMap Tok.row) none],true),([.v (.int .i64 (rb (fw s)).2)],true)]:=by
 obtain⟨l,hl⟩:∃l,l=s.data.toList:=⟨_,rfl⟩
 have hll:l.length=s.size:=by rw[hl];exact aD s
 obtain⟨rr,hrr⟩:=mK (B:=l) (l.length+1) 0 [] (by omega) (by omega)
 refine ah ab false Tryz.func143 rfl (by kernel_rfl) ?_
 simp only[Tryz.f143,tt,seval]
 refine fun _=>aa (fun hg=>?_) (fun hg=>?_)
 ·have e:fw s = .inr 2000:=by unfold fw;rw[if_pos (by omega)]
  rw[e]
  refine⟨.tu [([.sl 0 [] none],true),([.v (.int .i64 2000)],true)],[],rfl,ai ?_⟩
  simp only[tt,seval]
 have hs:s.size<=1048576:=by omega
 have e:fw s=rr:=by unfold fw;rw[if_neg (by omega),<-hl,hrr];rfl
 rw[e]
 refine dLoop.gh [.ren 14 42] ⟨by decide,by decide,?_⟩
 refine dLoop0.intro (fun f' L p=>∃(i n:Nat) (m:List Tok),f' 5=vi i/\f' 4 = .c (.s 42 m.length)/\i<=s.size/\m.length<=i/\oW l n i m=some rr/\l.length+1<=n+i/\L=[(42,.arr 150 m.length (m.flatMap Tok.row) none)]/\p=none) (fun f' _ _=>(s.size-bq (f' 5)).toNat) [(42,.arr 150 0 [] none)] none ⟨ac rfl (al _),an _,?_⟩ ?_
 ·simp only[tt,seval]
  exact⟨0,l.length+1,[],rfl,rfl,by omega,by simp,hrr,by omega,rfl⟩
 ·rintro g L p ⟨i,n,m,h5,h4,hi,hml,he,hn,rfl,rfl⟩
  simp only[tt,seval] at h5 h4
  cases n with
  |zero=>exact absurd hn (by omega)
  |succ n=>
  rw[oW] at he
  obtain⟨q,okb,hp,hiq,hqs⟩:=eu (B:=l) (l.length+1) i (by omega) (by omega)
  rw[hp] at he
  simp only at he
  have cp:=Eb s i hs hi
  rw[<-hl,hp] at cp
  simp only[tt,seval,h5]
  refine cZ (cp) ?_ ?_<;>simp only[tt,seval,h4,EL]
  cases okb with
  |false=>
   rw[if_pos rfl] at he
   injection he with he;subst he
   simp only[tt,seval]
   refine⟨.tu [([.sl 0 [] none],true),([.v (.int .i64 (q:Nat))],true)],[],rfl,ai ?_⟩
   simp only[tt,seval]
  |true=>
   rw[if_neg (by simp)] at he
   simp only[tt,seval]
   refine fun _=>?_
   by_cases hqe:s.size<=q
   ·have hq1:((q:Int)=(s.size:Int))=True:=eq_true (by omega)
    have hq2:(q=s.size)=True:=eq_true (by omega)
    rw[List.getElem?_eq_none_iff.2 (by omega)] at he
    simp only at he
    injection he with he;subst he
    simp only[tt,seval,hq1]
    refine⟨.tu [([.sl m.length (m.flatMap Tok.row) none],true),([.v (.int .i64 (-1))],true)],[],rfl,ai ?_⟩
    simp only[tt,seval]
   ·have hq1:((q:Int)=(s.size:Int))=False:=eq_false (by omega)
    have hq2:(q=s.size)=False:=eq_false (by omega)
    have hql:q<l.length:=by omega
    have hb:l[q]?=some l[q]:=az hql
    rw[hb] at he
    simp only at he
    have co:=vj s q l[q] hs (by rw[<-hl];exact hb)
    rw[<-hl] at co
    have osp:=fun t e=>hJ (e:=e) (t:=t) hb
    generalize l[q]=b at *
    simp only[tt,seval,hq1]
    cases ho:bk l q b with
    |none=>
     rw[ho] at he co
     simp only at he
     injection he with he;subst he
     refine eb (co) ?_ ?_ ?_
     ·decide
     ·simp only[tt,seval]
     rintro r ⟨t,e2,ok2,rfl,rfl,_⟩
     simp only[tt,seval,h4,Tok.row,Option.isSome_none]
     refine⟨.tu [([.sl 0 [] none],true),([.v (.int .i64 (q:Nat))],true)],[],rfl,ai ?_⟩
     simp only[tt,seval]
    |some y=>
     obtain⟨t,e⟩:=y
     rw[ho] at he co
     simp only at he
     obtain⟨he1,he2,_⟩:=osp t e ho
     refine eb (co) ?_ ?_ ?_
     ·decide
     ·simp only[tt,seval]
     rintro r ⟨t',e2,ok2,rfl,rfl,ht⟩
     simp only[tt,seval,h4,Tok.row]
     obtain⟨rfl,rfl⟩:=ht t e rfl
     refine⟨by kernel_rfl,⟨by simp only[maxLen];omega,by omega⟩,?_⟩
     refine⟨[(42,.arr 150 (m++[t']).length ((m++[t']).flatMap Tok.row) none)],none,by simp only[List.flatMap_append,aB,List.flatMap_cons,List.flatMap_nil,List.append_nil,Tok.row];exact ac rfl (al _),an _,⟨e,n,m++[t'],rfl,by simp,by omega,by simp;omega,he,by omega,rfl,rfl⟩,by simp only[bq];omega⟩
end Go.Proofs.YtbodcedhmccenaaGreatDoor
