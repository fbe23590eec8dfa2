/-
  The lexers.
  Conditions: none.
-/
import Derived.Test.YtbodcedhmccenaaGreatDoorPFB1
import Derived.Shelf.Strings.Search3
import Derived.Shelf.Strings.Prefix
import Derived.Shelf.Small.Strs
import Derived.Test.YtbodcedhmccenaaGreatDoorProg
set_option linter.unusedVariables false
set_option linter.unusedSimpArgs false
set_option linter.unusedSectionVars false
set_option maxRecDepth 8000
namespace Go.Proofs.YtbodcedhmccenaaGreatDoor
open Go Go.Dv
open Go.Vc (D dg dh cX bk)
theorem iD {s:ByteArray} {l:List UInt8} (hl:l=s.data.toList) (i j:Nat):s.extract i j=aN l i j:=by
 subst hl
 apply ByteArray.ext
 rw[ByteArray.data_extract]
 unfold aN
 apply Array.ext'
 simp [List.extract_eq_take_drop]
theorem ph {l:List UInt8} {i:Nat} (hi:i<l.length) (h:(bB l[i]||bX l[i])=true):aS l (i+1)=aS l i:=by
 rw[im i,aD hi]
 simp only[h,if_true]
theorem wO {l:List UInt8} {i:Nat} (hi:i<l.length) (h:(bB l[i]||bX l[i])=false):aS l i=i:=by
 rw[im i,aD hi]
 simp [h]
theorem tG {l:List UInt8} {i:Nat} (hi:l.length<=i):aS l i=i:=by
 rw[im i,List.getElem?_eq_none_iff.2 hi]
theorem zO (s:ByteArray) (i:Nat) (hs:s.size<=1048576) (hi:i<=s.size):Cl Tryz.prog 246 [vs s,vi i] [] fun r _=>r=vi (aS s.data.toList i:Nat):=by
 obtain⟨l,hl⟩:∃l,l=s.data.toList:=⟨_,rfl⟩
 have hll:l.length=s.size:=by rw[hl];exact aE s
 rw[<-hl]
 refine ai ac false Tryz.func246 rfl ae ?_
 simp only[Tryz.f246,tt,seval]
 refine dLoop.intro (fun f' L p=>∃j:Nat,f' 1=vi j/\j<=s.size/\aS l j=aS l i/\L=[]/\p=none) (fun f' _ _=>(s.size-eH (f' 1)).toNat) [] none ⟨ao _,aq _,?_⟩ ?_
 ·simp only[tt,seval]
  exact⟨i,rfl,hi,rfl⟩
 ·rintro g L p ⟨j,h1,hj,he,rfl,rfl⟩
  simp only[tt,seval] at h1
  simp only[tt,seval,h1,Int.ofNat_lt]
  by_cases hlt:j<s.size
  ·have hil:j<l.length:=by omega
   simp only[tt,seval,h1,hlt]
   rw[cI hl hil]
   simp only[tt,seval]
   refine fun _=>?_
   refine cZ (mO l[j].toNat) ?_ ?_<;>simp only[tt,seval]
   cases hL:jX l[j].toNat with
   |true=>
    simp only[tt,seval,h1]
    rw[ax (n:=(j:Int)+1) aa aa]
    exact⟨[],none,ao _,aq _,⟨j+1,rfl,aa,by rw[ph hil (by simp [bB,hL]),he],rfl,rfl⟩,aB⟩
   |false=>
    simp only[tt,seval,h1]
    rw[cI hl hil]
    simp only[tt,seval]
    refine cZ (jW l[j].toNat) ?_ ?_<;>simp only[tt,seval,h1]
    cases hF:decide ((48:Int)<=(l[j].toNat:Int)/\(l[j].toNat:Int)<=57) with
    |true=>
     have hF:=of_decide_eq_true hF
     rw[ax (n:=(j:Int)+1) aa aa]
     refine ab (fun _=>?_) (fun h=>absurd hF h)
     exact⟨[],none,ao _,aq _,⟨j+1,rfl,aa,by rw[ph hil (by simp only[bX,az hF,Bool.or_true]),he],rfl,rfl⟩,aB⟩
    |false=>
     have hF':=of_decide_eq_false hF
     refine ab (fun h=>absurd h hF') (fun _=>?_)
     refine⟨_,_,iU ?_,ap rfl⟩
     rw[<-he,wO hil (by simp only[bB,bX,hL,hF,Bool.or_false])]
  ·simp only[tt,seval,h1,hlt]
   refine fun _=>⟨_,_,iU ?_,ap rfl⟩
   rw[<-he,tG aa]
def Dd:Option (List UInt8×Nat)->S
 |some (x,e)=>.tu [([.v (.string ⟨x.toArray⟩)],true),([.v (.int .i64 (e:Nat))],true)]
 |none=>.tu [([.v (.string ⟨#[]⟩)],true),([.v (.int .i64 (-1))],true)]
theorem rz (s:ByteArray) (a:Nat) (q:UInt8) (hs:s.size<=1048576) (hq:s.data.toList[a]?=some q):Cl Tryz.prog 249 [vs s,vi a] [] fun r _=>r=Dd (cN s.data.toList q (s.data.toList.length+1) (a+1) []):=by
 obtain⟨l,hl⟩:∃l,l=s.data.toList:=⟨_,rfl⟩
 have hll:l.length=s.size:=by rw[hl];exact aE s
 rw[<-hl] at hq ⊢
 obtain⟨ha,hqa⟩:=List.getElem?_eq_some_iff.1 hq
 refine ai ac false Tryz.func249 rfl ae ?_
 simp only[Tryz.f249,tt,seval]
 rw[cI hl ha,hqa]
 simp only[tt,seval]
 rw[ax (n:=(a:Int)+1) aa aa]
 refine dLoop.gh [.ren 12 52] ⟨ah,ah,?_⟩
 refine dLoop0.introR (fun f' L p=>∃(i n:Nat) (bs:List UInt8),f' 8=vi i/\f' 7 = .c (.s 52 bs.length)/\i<=s.size/\bs.length<=i/\cN l q n i bs=cN l q (l.length+1) (a+1) []/\l.length+1<=n+i/\L=[(52,.arr 5 bs.length (aR bs) none)]/\p=none) (fun f' _ _=>(s.size-eH (f' 8)).toNat) [(52,.arr 5 0 (aR []) none)] none ⟨ak rfl (ao _),aq _,?_⟩ ?_
 ·simp only[tt,seval]
  exact⟨a+1,l.length+1,[],rfl,rfl,aa,by simp,rfl,aa,rfl⟩
 ·rintro g L p ⟨i,n,bs,h8,h7,hi,hbl,he,hn,rfl,rfl⟩
  simp only[tt,seval] at h8 h7
  simp only[tt,seval,h8,Int.ofNat_lt]
  cases n with
  |zero=>exact absurd hn aa
  |succ n=>
  rw[cN] at he
  refine fun _=>ab (fun hlt=>?_) (fun hge=>?_)
  ·have hil:i<l.length:=by omega
   rw[aD hil] at he
   simp only at he
   rw[cI hl hil]
   simp only[tt,seval,h8,h7]
   refine ab (fun hne=>?_) (fun heq=>?_)
   ·have hc:¬l[i]=q:=fun e=>by rw[e] at hne;simp at hne
    rw[if_neg hc] at he
    rw[cI hl hil]
    simp only[tt,seval,h8]
    refine kU ?_
    rw[dS,ax (n:=(i:Int)+1) aa aa]
    refine⟨[.ren 31 52],ah,ah,?_⟩
    simp only[tt,seval]
    refine⟨[(52,.arr 5 (bs++[l[i]]).length (aR (bs++[l[i]])) none)],none,ak (by simp [Go.Dv.look]) (ao _),aq _,⟨i+1,n,bs++[l[i]],by simp only[tt,seval];rfl,by simp only[tt,seval,aC],aa,by simp;omega,he,aa,rfl,rfl⟩,by simp only[tt,seval,eH];omega⟩
   ·have hc:l[i]=q:=UInt8.toNat_inj.1 (by simp at heq;omega)
    rw[if_pos hc] at he
    have ew:IntKind.i64.wrap ((i:Int)+1)=((i+1:Nat):Int):=by rw[ax aa aa];omega
    have ex:bs.length<=9223372036854775807:=by omega
    rw[ew]
    by_cases hi1:i+1<l.length
    ·have g1:decide ((s.size:Int)<=((i+1:Nat):Int))=false:=au aa
     rw[aD hi1] at he
     simp only[tt,seval,h8,g1,ew]
     refine fun _=>?_
     rw[cI hl hi1]
     simp only[tt,seval,h8,h7]
     refine ab (fun hne=>?_) (fun heq=>?_)
     ·have hd:¬l[i+1]=q:=fun e=>by rw[e] at hne;simp at hne
      rw[if_neg (by simpa using hd)] at he
      refine⟨ae,by simp only[maxLen];omega,bs,rfl,rfl,?_⟩
      simp only[tt,seval,h8,ew]
      rw[<-he]
      exact⟨_,_,rfl,ap rfl⟩
     ·have hd:l[i+1]=q:=UInt8.toNat_inj.1 (by simp at heq;omega)
      rw[if_pos (by rw[hd])] at he
      refine kU ?_
      rw[dS,ew,ax (n:=((i+1:Nat):Int)+1) aa aa]
      refine⟨[],?_⟩
      refine⟨[(52,.arr 5 (bs++[q]).length (aR (bs++[q])) none)],none,ak (by simp [Go.Dv.look]) (ao _),aq _,⟨i+2,n,bs++[q],by simp only[tt,seval];exact iU aa,by simp only[tt,seval,aC],aa,by simp;omega,he,aa,rfl,rfl⟩,by simp only[tt,seval,eH];omega⟩
    ·have g1:decide ((s.size:Int)<=((i+1:Nat):Int))=true:=az aa
     rw[List.getElem?_eq_none_iff.2 aa,if_neg (by simp)] at he
     simp only[tt,seval,h8,h7,g1,ew]
     refine fun _=>⟨ae,by simp only[maxLen];omega,bs,rfl,rfl,?_⟩
     simp only[tt,seval,h8,ew]
     rw[<-he]
     exact⟨_,_,rfl,ap rfl⟩
  ·have:i=s.size:=by omega
   subst this
   rw[List.getElem?_eq_none_iff.2 aa] at he
   simp only at he
   rw[<-he]
   exact⟨_,_,rfl,ap rfl⟩
theorem lQ (b:UInt8):mW b=true↔((b.toNat:Int)=32∨(b.toNat:Int)=9∨(b.toNat:Int)=10∨(b.toNat:Int)=13):=by
 unfold mW
 simp only[Bool.or_eq_true,beq_iff_eq,<-UInt8.toNat_inj]
 have e1:(32:UInt8).toNat=32:=rfl
 have e2:(9:UInt8).toNat=9:=rfl
 have e3:(10:UInt8).toNat=10:=rfl
 have e4:(13:UInt8).toNat=13:=rfl
 rw[e1,e2,e3,e4]
 omega
theorem B8 {l:List UInt8} {i:Nat} {a b:UInt8} (hi:i<=l.length):aN l i (min l.length (i+2))=⟨#[a,b]⟩↔l[i]?=some a/\l[i+1]?=some b:=by
 have h0:l[i]?=(l.drop i)[0]?:=by simp [List.getElem?_drop]
 have h1:l[i+1]?=(l.drop i)[1]?:=by simp [List.getElem?_drop]
 have ht:(l.drop i).take (min l.length (i+2)-i)=(l.drop i).take 2:=List.take_eq_take_iff.2 (by rw[List.length_drop];omega)
 unfold aN
 rw[ht,h0,h1]
 generalize l.drop i=m
 match m with
 | []=>simp
 | [x]=>simp
 |x::y::r=>simp
theorem zP (a b:Int):Cl Tryz.prog 244 [vi a,vi b] [] fun r _=>r=vi (if a<b then a else b):=by
 refine ai ac false Tryz.func244 rfl ae ?_
 simp only[Tryz.f244,tt,seval]
 refine ab (fun h=>?_) (fun h=>?_)
 ·exact⟨_,_,iU (by rw[if_pos h]),ap rfl⟩
 ·exact⟨_,_,iU (by rw[if_neg h]),ap rfl⟩
def HU:Option (Nat×Bool)->Int
 |some (p,true)=>p
 |some (p,false)=>-(p:Int)-1
 |none=>0
set_option maxHeartbeats 2000000 in
theorem De (s:ByteArray) (a:Nat) (hs:s.size<=1048576) (ha:a<=s.size):Cl Tryz.prog 147 [vs s,vi a] [] fun r _=>r=vi (HU (dq s.data.toList (s.data.toList.length+1) a)):=by
 obtain⟨l,hl⟩:∃l,l=s.data.toList:=⟨_,rfl⟩
 have hll:l.length=s.size:=by rw[hl];exact aE s
 rw[<-hl]
 refine ai ac false Tryz.func147 rfl ae ?_
 simp only[Tryz.f147,tt,seval]
 refine dLoop.intro (fun f' L p=>∃(j n:Nat),f' 1=vi j/\j<=s.size/\dq l n j=dq l (l.length+1) a/\l.length+1<=n+j/\L=[]/\p=none) (fun f' _ _=>(s.size-eH (f' 1)).toNat) [] none ⟨ao _,aq _,?_⟩ ?_
 ·simp only[tt,seval]
  exact⟨a,l.length+1,rfl,ha,rfl,aa⟩
 ·rintro g L p ⟨j,n,h1,hj,he,hn,rfl,rfl⟩
  simp only[tt,seval] at h1
  cases n with
  |zero=>exact absurd hn aa
  |succ n=>
  rw[dq] at he
  simp only[tt,seval,h1,Int.ofNat_lt]
  refine fun _=>ab (fun hlt=>?_) (fun hge=>?_)
  ·have hil:j<l.length:=by omega
   rw[aD hil] at he
   simp only at he
   rw[ax (n:=(j:Int)+2) aa aa]
   have em:(if (s.size:Int)<(j:Int)+2 then (s.size:Int) else (j:Int)+2)=((min l.length (j+2):Nat):Int):=by split<;>omega
   refine fun _=>?_
   refine cZ (zP s.size (j+2)) ?_ ?_<;>simp only[tt,seval]
   rw[em,iC ae (show s.size<=9223372036854775807 by omega) aa aa aa,Int.toNat_natCast,Int.toNat_natCast,iD hl]
   simp only[tt,seval,h1]
   cases h32:decide ((l[j].toNat:Int)=32) with
   |true=>
    rw[cI hl hil]
    simp only[tt,seval,h1,h32]
    rw[ax (n:=(j:Int)+1) aa aa]
    rw[if_pos ((lQ _).2 (by have:=of_decide_eq_true h32;omega))] at he
    exact⟨[],none,ao _,aq _,⟨j+1,n,rfl,aa,he,aa,rfl,rfl⟩,aB⟩
   |false=>
    rw[cI hl hil]
    simp only[tt,seval,h1,h32]
    cases h9:decide ((l[j].toNat:Int)=9) with
    |true=>
     rw[cI hl hil]
     simp only[tt,seval,h1,h9]
     rw[ax (n:=(j:Int)+1) aa aa]
     rw[if_pos ((lQ _).2 (by have:=of_decide_eq_true h9;omega))] at he
     exact⟨[],none,ao _,aq _,⟨j+1,n,rfl,aa,he,aa,rfl,rfl⟩,aB⟩
    |false=>
     rw[cI hl hil]
     simp only[tt,seval,h1,h9]
     cases h10:decide ((l[j].toNat:Int)=10) with
     |true=>
      rw[cI hl hil]
      simp only[tt,seval,h1,h10]
      rw[ax (n:=(j:Int)+1) aa aa]
      rw[if_pos ((lQ _).2 (by have:=of_decide_eq_true h10;omega))] at he
      exact⟨[],none,ao _,aq _,⟨j+1,n,rfl,aa,he,aa,rfl,rfl⟩,aB⟩
     |false=>
      rw[cI hl hil]
      simp only[tt,seval,h1,h10]
      cases h13:decide ((l[j].toNat:Int)=13) with
      |true=>
       rw[cI hl hil]
       simp only[tt,seval,h1,h13]
       rw[ax (n:=(j:Int)+1) aa aa]
       rw[if_pos ((lQ _).2 (by have:=of_decide_eq_true h13;omega))] at he
       exact⟨[],none,ao _,aq _,⟨j+1,n,rfl,aa,he,aa,rfl,rfl⟩,aB⟩
      |false=>
       rw[cI hl hil]
       simp only[tt,seval,h1,h13]
       have hw:¬mW l[j]=true:=fun h=>by
        have e1:=of_decide_eq_false h32
        have e2:=of_decide_eq_false h9
        have e3:=of_decide_eq_false h10
        have e4:=of_decide_eq_false h13
        have:=(lQ _).1 h
        omega
       rw[if_neg hw] at he
       by_cases hd:l[j]=45/\l[j+1]?=some 45
       ·have e2:(aN l j (min l.length (j+2))=⟨#[45,45]⟩)=True:=eq_true ((B8 aa).2 ⟨by rw[aD hil,hd.1],hd.2⟩)
        rw[if_pos hd] at he
        have hne:¬l[j]=10:=by rw[hd.1];decide
        have eol:=fp (B:=l) j
        rw[aD hil] at eol
        simp only[hne,if_false] at eol
        have gol:=lp (B:=l) (j+1)
        simp only[tt,seval,e2]
        refine dLoop.intro (fun f' L p=>∃k:Nat,f' 1=vi k/\k<=s.size/\dv l k=dv l j/\L=[]/\p=none) (fun f' _ _=>(s.size-eH (f' 1)).toNat) [] none ⟨ao _,aq _,?_⟩ ?_
        ·simp only[tt,seval,h1]
         exact⟨j,rfl,hj,rfl⟩
        ·rintro g2 L p ⟨k,h1',hk,hke,rfl,rfl⟩
         simp only[tt,seval] at h1'
         simp only[tt,seval,h1',Int.ofNat_lt]
         have st:=fp (B:=l) k
         by_cases hkl:k<s.size
         ·have hkl':k<l.length:=by omega
          rw[aD hkl'] at st
          simp only at st
          simp only[tt,seval,h1',hkl]
          rw[cI hl hkl']
          simp only[tt,seval,h1']
          refine fun _=>ab (fun h=>?_) (fun h=>?_)
          ·have hb:¬l[k]=10:=fun e=>by rw[e] at h;simp at h
           rw[if_neg hb] at st
           rw[ax (n:=(k:Int)+1) aa aa]
           exact⟨[],none,ao _,aq _,⟨k+1,rfl,aa,by rw[<-st,hke],rfl,rfl⟩,aB⟩
          ·have hb:l[k]=10:=UInt8.toNat_inj.1 (by simp at h;show l[k].toNat=10;omega)
           rw[if_pos hb] at st
           exact⟨[],none,ao _,aq _,⟨k,n,rfl,aa,by rw[<-st,hke];exact he,aa,rfl,rfl⟩,aB⟩
         ·simp only[tt,seval,h1',hkl]
          rw[List.getElem?_eq_none_iff.2 aa] at st
          simp only at st
          refine fun _=>?_
          exact⟨[],none,ao _,aq _,⟨k,n,rfl,aa,by rw[<-st,hke];exact he,aa,rfl,rfl⟩,aB⟩
       ·have e2:(aN l j (min l.length (j+2))=⟨#[45,45]⟩)=False:=eq_false fun h=>hd (by
         have:=(B8 aa).1 h
         rw[aD hil] at this
         exact⟨Option.some.inj this.1,this.2⟩)
        rw[if_neg hd] at he
        simp only[tt,seval,e2]
        by_cases hc:l[j]=47/\l[j+1]?=some 42
        ·have e3:(aN l j (min l.length (j+2))=⟨#[47,42]⟩)=True:=eq_true ((B8 aa).2 ⟨by rw[aD hil,hc.1],hc.2⟩)
         rw[if_pos hc] at he
         have hj2:j+1<l.length:=(List.getElem?_eq_some_iff.1 hc.2).1
         simp only[tt,seval,e3]
         rw[ax (n:=(j:Int)+2) aa aa]
         refine dLoop.intro (fun f' L p=>∃(k m:Nat),f' 6=vi k/\j+2<=k/\k<=s.size/\mF l m k=mF l (l.length+1) (j+2)/\l.length+1<=m+k/\L=[]/\p=none) (fun f' _ _=>(s.size-eH (f' 6)).toNat) [] none ⟨ao _,aq _,?_⟩ ?_
         ·simp only[tt,seval]
          exact⟨j+2,l.length+1,rfl,aa,aa,rfl,aa⟩
         ·rintro g2 L p ⟨k,m,h6,hjk,hk,hke,hm,rfl,rfl⟩
          simp only[tt,seval] at h6
          cases m with
          |zero=>exact absurd hm aa
          |succ m=>
          rw[mF] at hke
          simp only[tt,seval,h6,Int.ofNat_lt]
          refine fun _=>?_
          by_cases hkl:k<s.size
          ·have hkl':k<l.length:=by omega
           simp only[tt,seval,h6,hkl]
           refine fun _=>?_
           rw[ax (n:=(k:Int)+2) aa aa]
           have em:(if (s.size:Int)<(k:Int)+2 then (s.size:Int) else (k:Int)+2)=((min l.length (k+2):Nat):Int):=by split<;>omega
           refine cZ (zP s.size (k+2)) ?_ ?_<;>simp only[tt,seval]
           rw[em,iC ae (show s.size<=9223372036854775807 by omega) aa aa aa,Int.toNat_natCast,Int.toNat_natCast,iD hl]
           simp only[tt,seval,h6]
           by_cases hq:l[k]?=some 42/\l[k+1]?=some 47
           ·have e4:decide (aN l k (min l.length (k+2))=⟨#[42,47]⟩)=true:=az ((B8 aa).2 hq)
            rw[if_pos hq] at hke
            rw[<-hke] at he
            simp only at he
            have hk2:k+1<l.length:=(List.getElem?_eq_some_iff.1 hq.2).1
            have g1:decide ((s.size:Int)<=(k:Int))=false:=au aa
            have g1':((s.size:Int)<=(k:Int))=False:=eq_false aa
            simp only[tt,seval,e4,g1']
            refine fun _=>?_
            rw[ax (n:=(k:Int)+2) aa aa]
            exact⟨[],none,ao _,aq _,⟨k+2,n,rfl,aa,he,aa,rfl,rfl⟩,aB⟩
           ·have e4:decide (aN l k (min l.length (k+2))=⟨#[42,47]⟩)=false:=au fun h=>hq ((B8 aa).1 h)
            rw[if_neg hq,if_pos hkl'] at hke
            simp only[tt,seval,e4]
            rw[ax (n:=(k:Int)+1) aa aa]
            exact⟨[],none,ao _,aq _,⟨k+1,m,rfl,aa,aa,hke,aa,rfl,rfl⟩,aB⟩
          ·have hks:k=s.size:=by omega
           have hn1:l[k]?=none:=List.getElem?_eq_none_iff.2 aa
           rw[hn1,if_neg (by simp),if_neg aa] at hke
           rw[<-hke] at he
           simp only at he
           rw[<-he]
           have g1:decide ((s.size:Int)<=(k:Int))=true:=az aa
           have g1':((s.size:Int)<=(k:Int))=True:=eq_true aa
           simp only[tt,seval,h1,h6,hkl,g1']
           refine fun _=>⟨_,_,iU ?_,ap rfl⟩
           rw[ax (n:=-(j:Int)) aa aa,ax aa aa]
           rfl
        ·have e3:(aN l j (min l.length (j+2))=⟨#[47,42]⟩)=False:=eq_false fun h=>hc (by
          have:=(B8 aa).1 h
          rw[aD hil] at this
          exact⟨Option.some.inj this.1,this.2⟩)
         rw[if_neg hc] at he
         simp only[tt,seval,e3]
         rw[<-he]
         exact⟨_,_,rfl,ap rfl⟩
  ·have:j=s.size:=by omega
   subst this
   rw[List.getElem?_eq_none_iff.2 aa] at he
   simp only at he
   rw[<-he]
   exact⟨_,_,rfl,ap rfl⟩
theorem iE (l:List UInt8) (i j:Nat):(aN l i j).size=min (j-i) (l.length-i):=by
 unfold aN
 show ((l.drop i).take (j-i)).toArray.size=_
 simp
def HV:Option (Tok×Nat)->Int
 |some (_,e)=>e
 |none=>-1
theorem dy {l:List UInt8} {a:Nat} {b:UInt8} {t:Tok} {e:Nat} (hr:cD l a b=some (t,e)) (ho:aJ t=true):bg l a b=some (t,e):=by
 unfold bg
 rw[hr]
 simp only[ho,if_true]
theorem eB {l:List UInt8} {a:Nat} {b:UInt8} {t:Tok} {e:Nat} (hr:cD l a b=some (t,e)) (ho:aJ t=false):bg l a b=none:=by
 unfold bg
 rw[hr]
 simp only[ho,Bool.false_eq_true,if_false]
theorem uD (l:List UInt8) (a:Nat):cD l a 34=(cN l 34 (l.length+1) (a+1) []).map fun x=>(⟨2,⟨x.1.toArray⟩,a⟩,x.2):=by
 unfold cD
 simp only
 rw[if_neg ah,if_neg ah,if_pos trivial]
theorem uE (l:List UInt8) (a:Nat):cD l a 39=(cN l 39 (l.length+1) (a+1) []).map fun x=>(⟨4,⟨x.1.toArray⟩,a⟩,x.2):=by
 unfold cD
 simp only
 rw[if_neg ah,if_neg ah,if_neg ah,if_pos trivial]
set_option maxHeartbeats 4000000 in
theorem FB (s:ByteArray) (a:Nat) (b:UInt8) (hs:s.size<=1048576) (hb:s.data.toList[a]?=some b):Cl Tryz.prog 148 [vs s,vi a] [] fun r _=>∃t:Tok,r = .tu [(ar t.row,false),([.v (.int .i64 (HV (bg s.data.toList a b)))],true)]/\∀t' e,bg s.data.toList a b=some (t',e)->t=t':=by
 obtain⟨l,hl⟩:∃l,l=s.data.toList:=⟨_,rfl⟩
 have hll:l.length=s.size:=by rw[hl];exact aE s
 rw[<-hl] at hb ⊢
 obtain⟨ha,hba⟩:=List.getElem?_eq_some_iff.1 hb
 refine ai ac false Tryz.func148 rfl ae ?_
 simp only[Tryz.f148,tt,seval]
 rw[ax (n:=(a:Int)+1) aa aa,cI hl ha,hba]
 simp only[tt,seval]
 refine cZ (mO b.toNat) ?_ ?_<;>simp only[tt,seval]
 cases hL:jX b.toNat with
 |true=>
  simp only[tt,seval]
  have hrl:=lq (B:=l) a
  have hrh:=nK (B:=l) (i:=a) aa
  have crun:=zO s a hs aa
  rw[<-hl] at crun
  refine cZ (crun) ?_ ?_<;>simp only[tt,seval]
  rw[iC ae (show s.size<=9223372036854775807 by omega) aa aa aa,Int.toNat_natCast,Int.toNat_natCast,iD hl]
  simp only[tt,seval]
  have hsz:(aN l a (aS l a)).size<=1048576:=by rw[iE];omega
  generalize hx:aN l a (aS l a)=x at *
  refine cZ (tW x hsz) ?_ ?_<;>simp only[tt,seval]
  have hk:=qD x
  have hraw:cD l a b=some (if key x=0 then ⟨2,x,a⟩ else ⟨1,bW x,a⟩,aS l a):=by
   unfold cD
   simp only[bB,hL,if_true,hx]
  refine ab (fun hg=>?_) (fun hg=>?_)
  ·rw[if_neg aa] at hraw
   refine cZ (qB x hsz) ?_ ?_<;>simp only[tt,seval]
   have hno:decide (((aS l a:Nat):Int)<0)=false:=au aa
   simp only[tt,seval,hno]
   refine cZ (cR (Tok.mk 1 (bW x) a) (by show (bW x).size<=_;rw[g7];exact hsz)) ?_ ?_<;>simp only[tt,seval,Tok.row]
   cases ho:aJ (Tok.mk 1 (bW x) a) with
   |true=>
    have e1:bg l a b=some ((Tok.mk 1 (bW x) a),aS l a):=dy hraw ho
    rw[e1]
    simp only[tt,seval]
    refine⟨.tu [(ar (Tok.mk 1 (bW x) a).row,false),([.v (.int .i64 ((aS l a:Nat):Int))],true)],[],⟨(Tok.mk 1 (bW x) a),rfl,fun t' e' h=>by cases h;rfl⟩,am ?_⟩
    simp only[tt,seval,Tok.row]
   |false=>
    have e1:bg l a b=none:=eB hraw ho
    rw[e1]
    simp only[tt,seval]
    refine⟨.tu [(ar (Tok.mk 1 (bW x) a).row,false),([.v (.int .i64 (-1))],true)],[],⟨(Tok.mk 1 (bW x) a),by first|exact⟨rfl,fun t' e' h=>by cases h⟩|rfl⟩,am ?_⟩
    simp only[tt,seval,Tok.row]
  ·rw[if_pos aa] at hraw
   have hno:decide (((aS l a:Nat):Int)<0)=false:=au aa
   simp only[tt,seval,hno]
   refine cZ (cR (Tok.mk 2 x a) hsz) ?_ ?_<;>simp only[tt,seval,Tok.row]
   cases ho:aJ (Tok.mk 2 x a) with
   |true=>
    have e1:bg l a b=some ((Tok.mk 2 x a),aS l a):=dy hraw ho
    rw[e1]
    simp only[tt,seval]
    refine⟨.tu [(ar (Tok.mk 2 x a).row,false),([.v (.int .i64 ((aS l a:Nat):Int))],true)],[],⟨(Tok.mk 2 x a),rfl,fun t' e' h=>by cases h;rfl⟩,am ?_⟩
    simp only[tt,seval,Tok.row]
   |false=>
    have e1:bg l a b=none:=eB hraw ho
    rw[e1]
    simp only[tt,seval]
    refine⟨.tu [(ar (Tok.mk 2 x a).row,false),([.v (.int .i64 (-1))],true)],[],⟨(Tok.mk 2 x a),by first|exact⟨rfl,fun t' e' h=>by cases h⟩|rfl⟩,am ?_⟩
    simp only[tt,seval,Tok.row]
 |false=>
  simp only[tt,seval]
  rw[cI hl ha,hba]
  simp only[tt,seval]
  refine cZ (jW b.toNat) ?_ ?_<;>simp only[tt,seval]
  cases hF:decide ((48:Int)<=(b.toNat:Int)/\(b.toNat:Int)<=57) with
  |true=>
   have eF:((48:Int)<=(b.toNat:Int)/\(b.toNat:Int)<=57)=True:=eq_true (of_decide_eq_true hF)
   simp only[tt,seval,eF]
   have hrl:=lq (B:=l) a
   have hrh:=nK (B:=l) (i:=a) aa
   have crun:=zO s a hs aa
   rw[<-hl] at crun
   refine cZ (crun) ?_ ?_<;>simp only[tt,seval]
   rw[iC ae (show s.size<=9223372036854775807 by omega) aa aa aa,Int.toNat_natCast,Int.toNat_natCast,iD hl]
   simp only[tt,seval]
   have hsz:(aN l a (aS l a)).size<=1048576:=by rw[iE];omega
   generalize hx:aN l a (aS l a)=x at *
   have hraw:cD l a b=some (⟨3,x,a⟩,aS l a):=by
    unfold cD
    simp only[bB,bX,hL,hF,if_true,Bool.false_eq_true,if_false,hx]
   have hno:decide (((aS l a:Nat):Int)<0)=false:=au aa
   simp only[tt,seval,hno]
   refine cZ (cR (Tok.mk 3 x a) hsz) ?_ ?_<;>simp only[tt,seval,Tok.row]
   cases ho:aJ (Tok.mk 3 x a) with
   |true=>
    have e1:bg l a b=some ((Tok.mk 3 x a),aS l a):=dy hraw ho
    rw[e1]
    simp only[tt,seval]
    refine⟨.tu [(ar (Tok.mk 3 x a).row,false),([.v (.int .i64 ((aS l a:Nat):Int))],true)],[],⟨(Tok.mk 3 x a),rfl,fun t' e' h=>by cases h;rfl⟩,am ?_⟩
    simp only[tt,seval,Tok.row]
   |false=>
    have e1:bg l a b=none:=eB hraw ho
    rw[e1]
    simp only[tt,seval]
    refine⟨.tu [(ar (Tok.mk 3 x a).row,false),([.v (.int .i64 (-1))],true)],[],⟨(Tok.mk 3 x a),by first|exact⟨rfl,fun t' e' h=>by cases h⟩|rfl⟩,am ?_⟩
    simp only[tt,seval,Tok.row]
  |false=>
   have eF:((48:Int)<=(b.toNat:Int)/\(b.toNat:Int)<=57)=False:=eq_false (of_decide_eq_false hF)
   simp only[tt,seval,eF]
   rw[cI hl ha,hba]
   simp only[tt,seval]
   by_cases hb34:b=34
   ·have e34:((b.toNat:Int)=34)=True:=eq_true (by rw[hb34];rfl)
    simp only[tt,seval,e34]
    have cq:=rz s a b hs (by rw[<-hl];exact hb)
    rw[<-hl] at cq
    refine cZ (cq) ?_ ?_<;>simp only[tt,seval]
    have hqs:=fun x e=>dW (B:=l) (q:=b) (n:=l.length+1) (i:=a+1) (l:=[]) (x:=x) (e:=e)
    cases hq:cN l b (l.length+1) (a+1) [] with
    |none=>
     have hr:cD l a b=none:=by rw[hb34] at hq ⊢;rw[uD,hq];rfl
     have e1:bg l a b=none:=by unfold bg;rw[hr]
     rw[e1]
     simp only[tt,seval,Dd]
     refine⟨.tu [(ar (Tok.mk 2 ⟨#[]⟩ a).row,false),([.v (.int .i64 (-1))],true)],[],⟨Tok.mk 2 ⟨#[]⟩ a,by first|exact⟨rfl,fun t' e' h=>by cases h⟩|rfl⟩,am ?_⟩
     simp only[tt,seval,Tok.row]
    |some y=>
     obtain⟨x,e⟩:=y
     have hr:cD l a b=some (⟨2,⟨x.toArray⟩,a⟩,e):=by rw[hb34] at hq ⊢;rw[uD,hq];rfl
     have hqs:=hqs x e hq
     simp only[tt,seval,Dd]
     have hno:decide (((e:Nat):Int)<0)=false:=au aa
     simp only[tt,seval,hno]
     refine cZ (cR (Tok.mk 2 ⟨x.toArray⟩ a) (by show x.length<=_;simp only[List.length_nil] at hqs;omega)) ?_ ?_<;>simp only[tt,seval,Tok.row]
     cases ho:aJ (Tok.mk 2 ⟨x.toArray⟩ a) with
     |true=>
      have e1:bg l a b=some ((Tok.mk 2 ⟨x.toArray⟩ a),e):=dy hr ho
      rw[e1]
      simp only[tt,seval]
      refine⟨.tu [(ar (Tok.mk 2 ⟨x.toArray⟩ a).row,false),([.v (.int .i64 ((e:Nat):Int))],true)],[],⟨(Tok.mk 2 ⟨x.toArray⟩ a),rfl,fun t' e' h=>by cases h;rfl⟩,am ?_⟩
      simp only[tt,seval,Tok.row]
     |false=>
      have e1:bg l a b=none:=eB hr ho
      rw[e1]
      simp only[tt,seval]
      refine⟨.tu [(ar (Tok.mk 2 ⟨x.toArray⟩ a).row,false),([.v (.int .i64 (-1))],true)],[],⟨(Tok.mk 2 ⟨x.toArray⟩ a),by first|exact⟨rfl,fun t' e' h=>by cases h⟩|rfl⟩,am ?_⟩
      simp only[tt,seval,Tok.row]
   ·have h34:¬b=34:=hb34
    have e34:((b.toNat:Int)=34)=False:=eq_false fun h=>hb34 (UInt8.toNat_inj.1 (by show b.toNat=34;omega))
    simp only[tt,seval,e34]
    rw[cI hl ha,hba]
    simp only[tt,seval]
    by_cases hb39:b=39
    ·have e39:((b.toNat:Int)=39)=True:=eq_true (by rw[hb39];rfl)
     simp only[tt,seval,e39]
     have cq:=rz s a b hs (by rw[<-hl];exact hb)
     rw[<-hl] at cq
     refine cZ (cq) ?_ ?_<;>simp only[tt,seval]
     have hqs:=fun x e=>dW (B:=l) (q:=b) (n:=l.length+1) (i:=a+1) (l:=[]) (x:=x) (e:=e)
     cases hq:cN l b (l.length+1) (a+1) [] with
     |none=>
      have hr:cD l a b=none:=by rw[hb39] at hq ⊢;rw[uE,hq];rfl
      have e1:bg l a b=none:=by unfold bg;rw[hr]
      rw[e1]
      simp only[tt,seval,Dd]
      refine⟨.tu [(ar (Tok.mk 4 ⟨#[]⟩ a).row,false),([.v (.int .i64 (-1))],true)],[],⟨Tok.mk 4 ⟨#[]⟩ a,by first|exact⟨rfl,fun t' e' h=>by cases h⟩|rfl⟩,am ?_⟩
      simp only[tt,seval,Tok.row]
     |some y=>
      obtain⟨x,e⟩:=y
      have hr:cD l a b=some (⟨4,⟨x.toArray⟩,a⟩,e):=by rw[hb39] at hq ⊢;rw[uE,hq];rfl
      have hqs:=hqs x e hq
      simp only[tt,seval,Dd]
      have hno:decide (((e:Nat):Int)<0)=false:=au aa
      simp only[tt,seval,hno]
      refine cZ (cR (Tok.mk 4 ⟨x.toArray⟩ a) (by show x.length<=_;simp only[List.length_nil] at hqs;omega)) ?_ ?_<;>simp only[tt,seval,Tok.row]
      cases ho:aJ (Tok.mk 4 ⟨x.toArray⟩ a) with
      |true=>
       have e1:bg l a b=some ((Tok.mk 4 ⟨x.toArray⟩ a),e):=dy hr ho
       rw[e1]
       simp only[tt,seval]
       refine⟨.tu [(ar (Tok.mk 4 ⟨x.toArray⟩ a).row,false),([.v (.int .i64 ((e:Nat):Int))],true)],[],⟨(Tok.mk 4 ⟨x.toArray⟩ a),rfl,fun t' e' h=>by cases h;rfl⟩,am ?_⟩
       simp only[tt,seval,Tok.row]
      |false=>
       have e1:bg l a b=none:=eB hr ho
       rw[e1]
       simp only[tt,seval]
       refine⟨.tu [(ar (Tok.mk 4 ⟨x.toArray⟩ a).row,false),([.v (.int .i64 (-1))],true)],[],⟨(Tok.mk 4 ⟨x.toArray⟩ a),by first|exact⟨rfl,fun t' e' h=>by cases h⟩|rfl⟩,am ?_⟩
       simp only[tt,seval,Tok.row]
    ·have e39:((b.toNat:Int)=39)=False:=eq_false fun h=>hb39 (UInt8.toNat_inj.1 (by show b.toNat=39;omega))
     simp only[tt,seval,e39]
     have hraw:cD l a b=some (⟨5,aN l a (bQ l a),a⟩,bQ l a):=by
      unfold cD
      simp only[bB,bX,hL,hF,hb34,hb39,Bool.false_eq_true,if_false]
     have hsg:=sX ha
     have e2:IntKind.i64.wrap ((a:Int)+2)=((a+2:Nat):Int):=by rw[ax aa aa];omega
     have e1':(a:Int)+1=((a+1:Nat):Int):=by omega
     rw[e2]
     refine fun _=>?_
     by_cases h2:a+2<=s.size
     ·have g2:decide (((a+2:Nat):Int)<=(s.size:Int))=true:=az aa
      simp only[tt,seval,g2,e2]
      rw[iC ae (show s.size<=9223372036854775807 by omega) aa aa aa,Int.toNat_natCast,Int.toNat_natCast,iD hl]
      simp only[tt,seval]
      refine cZ (vt (aN l a (a+2))) ?_ ?_<;>simp only[tt,seval,e2]
      cases hs2:cW (aN l a (a+2)) with
      |true=>
       have hsn:bQ l a=a+2:=by unfold bQ;rw[if_pos ⟨aa,hs2⟩]
       simp only[tt,seval]
       rw[hsn] at hraw hsg
       rw[iC ae (show s.size<=9223372036854775807 by omega) aa aa aa,Int.toNat_natCast,Int.toNat_natCast,iD hl]
       simp only[tt,seval]
       have hsz:(aN l a (a+2)).size<=1048576:=by rw[iE];omega
       have hno:decide ((((a+2):Nat):Int)<0)=false:=au aa
       simp only[tt,seval,hno]
       refine cZ (cR (Tok.mk 5 (aN l a (a+2)) a) hsz) ?_ ?_<;>simp only[tt,seval,Tok.row]
       cases ho:aJ (Tok.mk 5 (aN l a (a+2)) a) with
       |true=>
        have e1:bg l a b=some ((Tok.mk 5 (aN l a (a+2)) a),(a+2)):=dy hraw ho
        rw[e1]
        simp only[tt,seval]
        refine⟨.tu [(ar (Tok.mk 5 (aN l a (a+2)) a).row,false),([.v (.int .i64 (((a+2):Nat):Int))],true)],[],⟨(Tok.mk 5 (aN l a (a+2)) a),rfl,fun t' e' h=>by cases h;rfl⟩,am ?_⟩
        simp only[tt,seval,Tok.row]
       |false=>
        have e1:bg l a b=none:=eB hraw ho
        rw[e1]
        simp only[tt,seval]
        refine⟨.tu [(ar (Tok.mk 5 (aN l a (a+2)) a).row,false),([.v (.int .i64 (-1))],true)],[],⟨(Tok.mk 5 (aN l a (a+2)) a),by first|exact⟨rfl,fun t' e' h=>by cases h⟩|rfl⟩,am ?_⟩
        simp only[tt,seval,Tok.row]
      |false=>
       have hsn:bQ l a=a+1:=by unfold bQ;rw[if_neg (by rw[hs2];simp)]
       simp only[tt,seval]
       rw[e1']
       rw[hsn] at hraw hsg
       rw[iC ae (show s.size<=9223372036854775807 by omega) aa aa aa,Int.toNat_natCast,Int.toNat_natCast,iD hl]
       simp only[tt,seval]
       have hsz:(aN l a (a+1)).size<=1048576:=by rw[iE];omega
       have hno:decide ((((a+1):Nat):Int)<0)=false:=au aa
       simp only[tt,seval,hno]
       refine cZ (cR (Tok.mk 5 (aN l a (a+1)) a) hsz) ?_ ?_<;>simp only[tt,seval,Tok.row]
       cases ho:aJ (Tok.mk 5 (aN l a (a+1)) a) with
       |true=>
        have e1:bg l a b=some ((Tok.mk 5 (aN l a (a+1)) a),(a+1)):=dy hraw ho
        rw[e1]
        simp only[tt,seval]
        refine⟨.tu [(ar (Tok.mk 5 (aN l a (a+1)) a).row,false),([.v (.int .i64 (((a+1):Nat):Int))],true)],[],⟨(Tok.mk 5 (aN l a (a+1)) a),rfl,fun t' e' h=>by cases h;rfl⟩,am ?_⟩
        simp only[tt,seval,Tok.row]
       |false=>
        have e1:bg l a b=none:=eB hraw ho
        rw[e1]
        simp only[tt,seval]
        refine⟨.tu [(ar (Tok.mk 5 (aN l a (a+1)) a).row,false),([.v (.int .i64 (-1))],true)],[],⟨(Tok.mk 5 (aN l a (a+1)) a),by first|exact⟨rfl,fun t' e' h=>by cases h⟩|rfl⟩,am ?_⟩
        simp only[tt,seval,Tok.row]
     ·have g2:decide (((a+2:Nat):Int)<=(s.size:Int))=false:=au aa
      have hsn:bQ l a=a+1:=by unfold bQ;rw[if_neg aa]
      simp only[tt,seval,g2,e2]
      rw[e1']
      rw[hsn] at hraw hsg
      rw[iC ae (show s.size<=9223372036854775807 by omega) aa aa aa,Int.toNat_natCast,Int.toNat_natCast,iD hl]
      simp only[tt,seval]
      have hsz:(aN l a (a+1)).size<=1048576:=by rw[iE];omega
      have hno:decide ((((a+1):Nat):Int)<0)=false:=au aa
      simp only[tt,seval,hno]
      refine cZ (cR (Tok.mk 5 (aN l a (a+1)) a) hsz) ?_ ?_<;>simp only[tt,seval,Tok.row]
      cases ho:aJ (Tok.mk 5 (aN l a (a+1)) a) with
      |true=>
       have e1:bg l a b=some ((Tok.mk 5 (aN l a (a+1)) a),(a+1)):=dy hraw ho
       rw[e1]
       simp only[tt,seval]
       refine⟨.tu [(ar (Tok.mk 5 (aN l a (a+1)) a).row,false),([.v (.int .i64 (((a+1):Nat):Int))],true)],[],⟨(Tok.mk 5 (aN l a (a+1)) a),rfl,fun t' e' h=>by cases h;rfl⟩,am ?_⟩
       simp only[tt,seval,Tok.row]
      |false=>
       have e1:bg l a b=none:=eB hraw ho
       rw[e1]
       simp only[tt,seval]
       refine⟨.tu [(ar (Tok.mk 5 (aN l a (a+1)) a).row,false),([.v (.int .i64 (-1))],true)],[],⟨(Tok.mk 5 (aN l a (a+1)) a),by first|exact⟨rfl,fun t' e' h=>by cases h⟩|rfl⟩,am ?_⟩
       simp only[tt,seval,Tok.row]
def sB:List Tok ⊕ Nat->List Tok×Int
 |.inl m=>(m,-1)
 |.inr p=>([],p)
theorem rA {s:ByteArray} {L:List Tok} (h:fJ s = .inl L):s.size<=1048576:=by
 unfold fJ at h
 split at h
 ·cases h
 ·omega
set_option maxHeartbeats 4000000 in
theorem IY (s:ByteArray):Cl Tryz.prog 70 [vs s] [] fun r _=>r = .tu [([.sl (sB (fJ s)).1.length ((sB (fJ s)).1.flatMap Tok.row) none],true),([.v (.int .i64 (sB (fJ s)).2)],true)]:=by
 obtain⟨l,hl⟩:∃l,l=s.data.toList:=⟨_,rfl⟩
 have hll:l.length=s.size:=by rw[hl];exact aE s
 obtain⟨rr,hrr⟩:=qg (B:=l) (l.length+1) 0 [] aa aa
 refine ai ac false Tryz.func70 rfl ae ?_
 simp only[Tryz.f70,tt,seval]
 refine fun _=>ab (fun hg=>?_) (fun hg=>?_)
 ·have e:fJ s = .inr 2000:=by unfold fJ;rw[if_pos aa]
  rw[e]
  refine⟨.tu [([.sl 0 [] none],true),([.v (.int .i64 2000)],true)],[],rfl,am ?_⟩
  simp only[tt,seval]
 have hs:s.size<=1048576:=by omega
 have e:fJ s=rr:=by unfold fJ;rw[if_neg aa,<-hl,hrr];rfl
 rw[e]
 refine dLoop.gh [.ren 8 40] ⟨ah,ah,?_⟩
 refine dLoop0.intro (fun f' L p=>∃(i n:Nat) (m:List Tok),f' 5=vi i/\f' 4 = .c (.s 40 m.length)/\i<=s.size/\m.length<=i/\lj l n i m=some rr/\l.length+1<=n+i/\L=[(40,.arr 150 m.length (m.flatMap Tok.row) none)]/\p=none) (fun f' _ _=>(s.size-eH (f' 5)).toNat) [(40,.arr 150 0 [] none)] none ⟨ak rfl (ao _),aq _,?_⟩ ?_
 ·simp only[tt,seval]
  exact⟨0,l.length+1,[],rfl,rfl,aa,by simp,hrr,aa,rfl⟩
 ·rintro g L p ⟨i,n,m,h5,h4,hi,hml,he,hn,rfl,rfl⟩
  simp only[tt,seval] at h5 h4
  cases n with
  |zero=>exact absurd hn aa
  |succ n=>
  rw[lj] at he
  obtain⟨q,okb,hp,hiq,hqs⟩:=fv (B:=l) (l.length+1) i aa aa
  rw[hp] at he
  simp only at he
  have cp:=De s i hs hi
  rw[<-hl,hp] at cp
  simp only[tt,seval,h5]
  refine cZ (cp) ?_ ?_<;>simp only[tt,seval,h4]
  cases okb with
  |false=>
   rw[if_pos rfl] at he
   injection he with he;subst he
   have hneg:decide ((-(q:Int)-1)<0)=true:=az aa
   have hneg':((-(q:Int)-1)<0)=True:=eq_true aa
   simp only[tt,seval,HU,hneg']
   rw[ax (n:=-(-(q:Int)-1)) aa aa,ax aa aa]
   refine⟨.tu [([.sl 0 [] none],true),([.v (.int .i64 (q:Nat))],true)],[],rfl,am ?_⟩
   simp only[tt,seval]
   omega
  |true=>
   rw[if_neg (by simp)] at he
   have hneg':((q:Int)<0)=False:=eq_false aa
   simp only[tt,seval,HU,hneg']
   refine fun _=>?_
   by_cases hqe:s.size<=q
   ·have hq1:((s.size:Int)<=(q:Int))=True:=eq_true aa
    rw[List.getElem?_eq_none_iff.2 aa] at he
    simp only at he
    injection he with he;subst he
    simp only[tt,seval,hq1]
    trace_state
    refine⟨.tu [([.sl m.length (m.flatMap Tok.row) none],true),([.v (.int .i64 (-1))],true)],[],rfl,am ?_⟩
    simp only[tt,seval]
   ·have hq1:((s.size:Int)<=(q:Int))=False:=eq_false aa
    have hql:q<l.length:=by omega
    have hb:l[q]?=some l[q]:=aD hql
    rw[hb] at he
    simp only at he
    have co:=FB s q l[q] hs (by rw[<-hl];exact hb)
    rw[<-hl] at co
    have osp:=fun t e=>io (e:=e) (t:=t) hb
    generalize l[q]=b at *
    simp only[tt,seval,hq1]
    cases ho:bg l q b with
    |none=>
     rw[ho] at he co
     simp only at he
     injection he with he;subst he
     refine fV (co) ?_ ?_ ?_
     ·decide
     ·simp only[tt,seval]
     rintro r ⟨t,rfl,_⟩
     simp only[tt,seval,h4,HV,Tok.row]
     refine⟨.tu [([.sl 0 [] none],true),([.v (.int .i64 (q:Nat))],true)],[],rfl,am ?_⟩
     simp only[tt,seval]
    |some y=>
     obtain⟨t,e⟩:=y
     rw[ho] at he co
     simp only at he
     obtain⟨he1,he2,_⟩:=osp t e ho
     have hne:((e:Int)<0)=False:=eq_false aa
     refine fV (co) ?_ ?_ ?_
     ·decide
     ·simp only[tt,seval]
     rintro r ⟨t',rfl,ht⟩
     simp only[tt,seval,h4,HV,Tok.row,hne]
     obtain rfl:=ht t e rfl
     refine kU ?_
     refine⟨[(40,.arr 150 (m++[t']).length ((m++[t']).flatMap Tok.row) none)],none,by simp only[List.flatMap_append,aC,List.flatMap_cons,List.flatMap_nil,List.append_nil,Tok.row];exact ak rfl (ao _),aq _,⟨e,n,m++[t'],rfl,by simp,aa,by simp;omega,he,aa,rfl,rfl⟩,aB⟩
def wP:Option (List UInt8×Nat)->S
 |some (x,e)=>.tu [([.v (.string ⟨x.toArray⟩)],true),([.v (.int .i64 (e:Nat))],true),([.v (.bool true)],true)]
 |none=>.tu [([.v (.string ⟨#[]⟩)],true),([.v (.int .i64 0)],true),([.v (.bool false)],true)]
theorem ox (s:ByteArray) (a:Nat) (q:UInt8) (hs:s.size<=1048576) (hq:s.data.toList[a]?=some q):Cl Tryz.prog 297 [vs s,vi a] [] fun r _=>r=wP (cN s.data.toList q (s.data.toList.length+1) (a+1) []):=by
 obtain⟨l,hl⟩:∃l,l=s.data.toList:=⟨_,rfl⟩
 have hll:l.length=s.size:=by rw[hl];exact aE s
 rw[<-hl] at hq ⊢
 obtain⟨ha,hqa⟩:=List.getElem?_eq_some_iff.1 hq
 refine ai ac false Tryz.func297 rfl ae ?_
 simp only[Tryz.f297,tt,seval]
 rw[cI hl ha,hqa]
 simp only[tt,seval]
 rw[ax (n:=(a:Int)+1) aa aa]
 refine dLoop.gh [.ren 13 51] ⟨ah,ah,?_⟩
 refine dLoop0.intro (fun f' L p=>∃(i n:Nat) (bs:List UInt8),f' 9=vi i/\f' 8 = .c (.s 51 bs.length)/\i<=s.size/\bs.length<=i/\cN l q n i bs=cN l q (l.length+1) (a+1) []/\l.length+1<=n+i/\L=[(51,.arr 5 bs.length (aR bs) none)]/\p=none) (fun f' _ _=>(s.size-eH (f' 9)).toNat) [(51,.arr 5 0 (aR []) none)] none ⟨ak rfl (ao _),aq _,?_⟩ ?_
 ·simp only[tt,seval]
  exact⟨a+1,l.length+1,[],rfl,rfl,aa,by simp,rfl,aa,rfl⟩
 ·rintro g L p ⟨i,n,bs,h9,h8,hi,hbl,he,hn,rfl,rfl⟩
  simp only[tt,seval] at h9 h8
  simp only[tt,seval,h9,Int.ofNat_lt]
  cases n with
  |zero=>exact absurd hn aa
  |succ n=>
  rw[cN] at he
  refine fun _=>ab (fun hlt=>?_) (fun hge=>?_)
  ·have hil:i<l.length:=by omega
   have hx:l[i]?=some l[i]:=aD hil
   have ex:bs.length<=9223372036854775807:=by omega
   have ew:IntKind.i64.wrap ((i:Int)+1)=((i+1:Nat):Int):=by rw[ax aa aa];omega
   rw[hx] at he
   simp only at he
   rw[cI hl hil]
   simp only[tt,seval,h9,h8]
   by_cases hc:l[i]=q
   ·have eq1:((l[i].toNat:Int)=(q.toNat:Int))=True:=eq_true (by rw[hc])
    rw[if_pos hc] at he
    simp only[tt,seval,eq1]
    refine fun _=>?_
    rw[ew]
    by_cases hi1:i+1<l.length
    ·have g1:decide (((i+1:Nat):Int)=(s.size:Int))=false:=au aa
     rw[aD hi1] at he
     simp only[tt,seval,h9,g1,ew]
     rw[cI hl hi1]
     simp only[tt,seval,h9,h8]
     refine ab (fun hne=>?_) (fun heq=>?_)
     ·have hd:¬l[i+1]=q:=fun e=>by rw[e] at hne;simp at hne
      rw[if_neg (by simpa using hd)] at he
      refine⟨ae,by simp only[maxLen];omega,bs,rfl,rfl,?_⟩
      simp only[tt,seval,h9,ew]
      rw[<-he]
      exact⟨_,_,rfl,ap rfl⟩
     ·have hd:l[i+1]=q:=UInt8.toNat_inj.1 (by simp at heq;omega)
      rw[if_pos (by rw[hd])] at he
      rw[ew,cI hl hi1]
      simp only[tt,seval]
      refine kU ?_
      rw[dS,hd,ax (n:=((i+1:Nat):Int)+1) aa aa]
      refine⟨[(51,.arr 5 (bs++[q]).length (aR (bs++[q])) none)],none,ak (by simp [Go.Dv.look]) (ao _),aq _,⟨i+2,n,bs++[q],iU aa,by simp,aa,by simp;omega,he,aa,rfl,rfl⟩,aB⟩
    ·have g1:decide (((i+1:Nat):Int)=(s.size:Int))=true:=az aa
     rw[List.getElem?_eq_none_iff.2 aa,if_neg (by simp)] at he
     simp only[tt,seval,h9,h8,g1,ew]
     refine⟨ae,by simp only[maxLen];omega,bs,rfl,rfl,?_⟩
     simp only[tt,seval,h9,ew]
     rw[<-he]
     exact⟨_,_,rfl,ap rfl⟩
   ·have eq1:((l[i].toNat:Int)=(q.toNat:Int))=False:=eq_false fun h=>hc (UInt8.toNat_inj.1 aa)
    rw[if_neg hc] at he
    simp only[tt,seval,eq1]
    rw[cI hl hil]
    simp only[tt,seval,h9]
    refine kU ?_
    rw[dS,ew]
    refine⟨[(51,.arr 5 (bs++[l[i]]).length (aR (bs++[l[i]])) none)],none,ak (by simp [Go.Dv.look]) (ao _),aq _,⟨i+1,n,bs++[l[i]],rfl,by simp,aa,by simp;omega,he,aa,rfl,rfl⟩,aB⟩
  ·have:i=s.size:=by omega
   subst this
   rw[List.getElem?_eq_none_iff.2 aa] at he
   simp only at he
   rw[<-he]
   exact⟨_,_,rfl,ap rfl⟩
end Go.Proofs.YtbodcedhmccenaaGreatDoor
namespace Go.Proofs.YtbodcedhmccenaaGreatDoor
open Go Go.Shelf Go.Proofs
def Tryz.lays143_ren:Go.Shelf.Ren:=⟨fun|143=>294|219=>324|217=>322|225=>334|224=>335|267=>336|266=>333|314=>352|n=>n,fun|9=>9|3=>3|4=>4|5=>5|46=>218|146=>284|51=>283|n=>n,fun|1=>0|n=>n⟩
theorem Tryz.lays143:Go.Proofs.Lays.n143 Tryz.prog Tryz.lays143_ren:={
 mixed:=by kernel_rfl
 f143:=Tryz.func294.trans (congrArg some ae)
 f217:=Tryz.func322.trans (congrArg some ae)
 f219:=Tryz.func324.trans (congrArg some ae)
 f224:=Tryz.func335.trans (congrArg some ae)
 f225:=Tryz.func334.trans (congrArg some ae)
 f266:=Tryz.func333.trans (congrArg some ae)
 f267:=Tryz.func336.trans (congrArg some ae)
 f314:=Tryz.func352.trans (congrArg some ae)
 t3:=Tryz.underlying3
 a3:=Tryz.isAgg3
 z3:=Tryz.sizeOf3
 v3:=Tryz.zeroValue3
 t4:=Tryz.underlying4
 a4:=Tryz.isAgg4
 z4:=Tryz.sizeOf4
 v4:=Tryz.zeroValue4
 t5:=Tryz.underlying5
 a5:=Tryz.isAgg5
 z5:=Tryz.sizeOf5
 v5:=Tryz.zeroValue5
 t9:=Tryz.underlying9
 a9:=Tryz.isAgg9
 z9:=Tryz.sizeOf9
 v9:=Tryz.zeroValue9
 t46:=Tryz.underlying218
 a46:=Tryz.isAgg218
 z46:=Tryz.sizeOf218
 v46:=Tryz.zeroValue218
 t51:=Tryz.underlying283
 a51:=Tryz.isAgg283
 z51:=Tryz.sizeOf283
 v51:=Tryz.zeroValue283
 t146:=Tryz.underlying284
 a146:=Tryz.isAgg284
 z146:=Tryz.sizeOf284
 v146:=Tryz.zeroValue284
 g1:=by kernel_rfl }
def Tryz.lays137_ren:Go.Shelf.Ren:=⟨fun|137=>292|217=>322|266=>333|n=>n,fun|9=>9|5=>5|3=>3|n=>n,fun|n=>n⟩
theorem Tryz.lays137:Go.Proofs.Lays.n137 Tryz.prog Tryz.lays137_ren:={
 mixed:=by kernel_rfl
 f137:=Tryz.func292.trans (congrArg some ae)
 f217:=Tryz.func322.trans (congrArg some ae)
 f266:=Tryz.func333.trans (congrArg some ae)
 t3:=Tryz.underlying3
 a3:=Tryz.isAgg3
 z3:=Tryz.sizeOf3
 v3:=Tryz.zeroValue3
 t5:=Tryz.underlying5
 a5:=Tryz.isAgg5
 z5:=Tryz.sizeOf5
 v5:=Tryz.zeroValue5
 t9:=Tryz.underlying9
 a9:=Tryz.isAgg9
 z9:=Tryz.sizeOf9
 v9:=Tryz.zeroValue9 }
def Tryz.lays99_ren:Go.Shelf.Ren:=⟨fun|99=>293|206=>323|n=>n,fun|9=>9|4=>4|3=>3|n=>n,fun|n=>n⟩
theorem Tryz.lays99:Go.Proofs.Lays.n99 Tryz.prog Tryz.lays99_ren:={
 mixed:=by kernel_rfl
 f99:=Tryz.func293.trans (congrArg some ae)
 f206:=Tryz.func323.trans (congrArg some ae)
 t3:=Tryz.underlying3
 a3:=Tryz.isAgg3
 z3:=Tryz.sizeOf3
 v3:=Tryz.zeroValue3
 t4:=Tryz.underlying4
 a4:=Tryz.isAgg4
 z4:=Tryz.sizeOf4
 v4:=Tryz.zeroValue4
 t9:=Tryz.underlying9
 a9:=Tryz.isAgg9
 z9:=Tryz.sizeOf9
 v9:=Tryz.zeroValue9 }
end Go.Proofs.YtbodcedhmccenaaGreatDoor
set_option maxRecDepth 8000
namespace Go.Proofs.YtbodcedhmccenaaGreatDoor
open Go Go.Dv
open Go.Vc (D dg dh cX bk)
open Go.RowKit (Below)
theorem nr (w:World):Below w.heap.size w w:=⟨rfl,rfl,rfl,Nat.le_refl _,fun _ _=>rfl⟩
theorem lR (s p:ByteArray):Cl Tryz.prog 293 [vs s,vs p] [] fun r _=>r=vb (Lib.hasPrefix s.data.toList p.data.toList):=
 Cl.ofVals ae [.string s,.string p] fun w hg=>by
  refine (Any.strings_HasPrefix Tryz.lays99 s p w).mono ?_
  rintro e w' ⟨rfl,rfl⟩
  exact⟨_,rfl,trivial,rfl,nr _⟩
theorem pN (s:ByteArray) (c:UInt8):Cl Tryz.prog 292 [vs s,vu (c.toNat:Int)] [] fun r _=>r=vi (Lib.indexByte s.data.toList c):=
 Cl.ofVals ae [.string s,.int .u8 (c.toNat:Int)] fun w hg=>by
  refine (Any.strings_IndexByte Tryz.lays137 s (c.toNat:Int) w).mono ?_
  rintro e w' ⟨rfl,rfl⟩
  exact⟨_,rfl,trivial,by simp,nr _⟩
theorem Dg (s p:ByteArray) (hs:s.size<=1048576):Cl Tryz.prog 294 [vs s,vs p] [] fun r _=>r=vi (Lib.index s.data.toList p.data.toList):=
 Cl.ofVals ae [.string s,.string p] fun w hg=>by
  obtain⟨m,hm⟩:=tX hg
  refine (Any.strings_Index Tryz.lays143 s p m w aa hm).mono ?_
  rintro e w' ⟨rfl,rfl⟩
  exact⟨_,rfl,trivial,rfl,nr _⟩
theorem uF {s:ByteArray} {l:List UInt8} (hl:l=s.data.toList) (i:Nat):s.extract i s.size=⟨(l.drop i).toArray⟩:=by
 rw[iD hl]
 unfold aN
 rw[List.take_of_length_le]
 rw[List.length_drop,hl,aE]
 exact Nat.le_refl _
theorem HW (l:List UInt8) (i:Nat) (a b:UInt8):Lib.hasPrefix (l.drop i) [a,b]=decide (l[i]?=some a/\l[i+1]?=some b):=by
 have h0:l[i]?=(l.drop i)[0]?:=by simp [List.getElem?_drop]
 have h1:l[i+1]?=(l.drop i)[1]?:=by simp [List.getElem?_drop]
 rw[h0,h1]
 unfold Lib.hasPrefix
 generalize l.drop i=m
 match m with
 | []=>simp
 | [x]=>
  show (a==x&&false)=_
  simp
 |x::y::r=>
  show (a==x&&(b==y&&true))=_
  by_cases h1:x=a
  ·by_cases h2:y=b
   ·simp [h1,h2]
   ·have h2':¬b=y:=fun e=>h2 e.symm
    simp [h1,h2,h2']
  ·have h1':¬a=x:=fun e=>h1 e.symm
   simp [h1,h1']
theorem zQ (l:List UInt8):∀n j,l.length-j<=n->dv l (dv l j)=dv l j
 |0,j,h=>by
  have:=fp (B:=l) j
  rw[List.getElem?_eq_none_iff.2 aa] at this
  simp only at this
  rw[this,this]
 |n+1,j,h=>by
  have:=fp (B:=l) j
  cases hx:l[j]? with
  |none=>
   rw[hx] at this
   simp only at this
   rw[this,this]
  |some b=>
   rw[hx] at this
   simp only at this
   split at this
   ·rw[this,this]
   ·rw[this];exact zQ l n (j+1) aa
theorem FC (l:List UInt8) (c:UInt8):Lib.indexByte l c=if (l.takeWhile fun b=>!(b==c)).length<l.length then ((l.takeWhile fun b=>!(b==c)).length:Int) else -1:=by
 induction l with
 |nil=>rfl
 |cons b r ih=>
  unfold Lib.indexByte
  rw[List.takeWhile_cons]
  by_cases h:(b==c)=true
  ·simp [h]
  ·rw[if_neg h,ih]
   have hb:(!(b==c))=true:=by simp [h]
   simp only[hb,if_true,List.length_cons,Nat.add_lt_add_iff_right]
   split
   ·rw[if_neg (by simp only[beq_iff_eq];omega)];omega
   ·rw[if_pos (by rfl)]
theorem HX (b:UInt8):0<=Lib.indexByte [32,9,10,13] b↔mW b=true:=by
 unfold mW
 simp only[Lib.indexByte,Bool.or_eq_true,beq_iff_eq]
 by_cases h1:b=32
 ·subst h1;decide
 by_cases h2:b=9
 ·subst h2;decide
 by_cases h3:b=10
 ·subst h3;decide
 by_cases h4:b=13
 ·subst h4;decide
 simp only[h1,h2,h3,h4,eq_comm,or_self,iff_false,if_false]
 simp []
theorem zR (l:List UInt8):∀n i,i<=l.length->l.length+1<=n+i->mF l n i=(if Lib.index (l.drop i) [42,47] = -1 then none else some (i+(Lib.index (l.drop i) [42,47]).toNat))
 |0,i,hi,hn=>absurd hn aa
 |n+1,i,hi,hn=>by
  rw[mF]
  have hp:=HW l i 42 47
  unfold Lib.hasPrefix at hp
  by_cases hlt:i<l.length
  ·rw[List.drop_eq_getElem_cons hlt] at hp ⊢
   unfold Lib.index
   rw[hp]
   by_cases hq:l[i]?=some 42/\l[i+1]?=some 47
   ·rw[if_pos hq,az hq];simp
   ·rw[if_neg hq,if_pos hlt,au hq,zR l n (i+1) aa aa]
    have hg:=Lib.index_ge (l.drop (i+1)) [42,47]
    by_cases hm:Lib.index (l.drop (i+1)) [42,47] = -1
    ·simp [hm]
    ·simp only[hm,Bool.false_eq_true,if_false,beq_iff_eq]
     rw[if_neg aa]
     congr 1
     omega
  ·have hq:¬(l[i]?=some 42/\l[i+1]?=some 47):=fun h=>hlt (List.getElem?_eq_some_iff.1 h.1).1
   rw[if_neg hq,if_neg hlt,List.drop_eq_nil_of_le aa]
   rfl
def IZ:Option (Nat×Bool)->S
 |some (p,b)=>.tu [([.v (.int .i64 (p:Nat))],true),([.v (.bool b)],true)]
 |none=>.tu []
set_option maxHeartbeats 4000000 in
theorem HY (s:ByteArray) (a:Nat) (hs:s.size<=1048576) (ha:a<=s.size):Cl Tryz.prog 238 [vs s,vi a] [] fun r _=>r=IZ (dq s.data.toList (s.data.toList.length+1) a):=by
 obtain⟨l,hl⟩:∃l,l=s.data.toList:=⟨_,rfl⟩
 have hll:l.length=s.size:=by rw[hl];exact aE s
 rw[<-hl]
 obtain⟨rr,ok,hrr,hr1,hr2⟩:=fv (B:=l) (l.length+1) a aa aa
 rw[hrr]
 refine ai ac false Tryz.func238 rfl ae ?_
 simp only[Tryz.f238,tt,seval]
 refine dLoop.intro (fun f' L p=>∃(j n:Nat),f' 1=vi j/\j<=s.size/\dq l n j=some (rr,ok)/\l.length+1<=n+j/\L=[]/\p=none) (fun f' _ _=>(s.size-eH (f' 1)).toNat) [] none ⟨ao _,aq _,?_⟩ ?_
 ·simp only[tt,seval]
  exact⟨a,l.length+1,rfl,ha,hrr,aa⟩
 ·rintro g L p ⟨j,n,h1,hj,he,hn,rfl,rfl⟩
  simp only[tt,seval] at h1
  cases n with
  |zero=>exact absurd hn aa
  |succ n=>
  rw[dq] at he
  simp only[tt,seval,h1,Int.ofNat_lt]
  refine fun _=>ab (fun hlt=>?_) (fun hge=>?_)
  ·have hil:j<l.length:=by omega
   have hrs:(⟨(l.drop j).toArray⟩:ByteArray).size<=1048576:=by show (l.drop j).toArray.size<=_;simp;omega
   rw[aD hil] at he
   simp only at he
   rw[ms ae (show s.size<=9223372036854775807 by omega) aa aa,Int.toNat_natCast,uF hl]
   simp only[tt,seval,h1]
   rw[cI hl hil]
   simp only[tt,seval]
   have cw:=pN ⟨#[32,9,10,13]⟩ l[j]
   have hwi:=HX l[j]
   refine cZ (cw) ?_ ?_<;>simp only[tt,seval,h1]
   by_cases hw:mW l[j]=true
   ·rw[if_pos hw] at he
    have e1:(0<=Lib.indexByte [32,9,10,13] l[j])=True:=eq_true (hwi.2 hw)
    simp only[tt,seval,e1]
    rw[ax (n:=(j:Int)+1) aa aa]
    exact⟨[],none,ao _,aq _,⟨j+1,n,rfl,aa,he,aa,rfl,rfl⟩,aB⟩
   ·rw[if_neg hw] at he
    have e1:(0<=Lib.indexByte [32,9,10,13] l[j])=False:=eq_false fun h=>hw (hwi.1 h)
    simp only[tt,seval,e1]
    have c1:=lR ⟨(l.drop j).toArray⟩ ⟨#[45,45]⟩
    have e2:Lib.hasPrefix (⟨(l.drop j).toArray⟩:ByteArray).data.toList (⟨#[45,45]⟩:ByteArray).data.toList=decide (l[j]=45/\l[j+1]?=some 45):=by
     show Lib.hasPrefix (l.drop j) [45,45]=_
     rw[HW,aD hil];simp
    rw[e2] at c1
    refine cZ (c1) ?_ ?_<;>simp only[tt,seval]
    by_cases hd:l[j]=45/\l[j+1]?=some 45
    ·have d1:decide (l[j]=45/\l[j+1]?=some 45)=true:=az hd
     have d1':(l[j]=45/\l[j+1]?=some 45)=True:=eq_true hd
     rw[if_pos hd] at he
     have hne:¬l[j]=10:=by rw[hd.1];decide
     have eol:=fp (B:=l) j
     rw[aD hil] at eol
     simp only[hne,if_false] at eol
     have gol:=lp (B:=l) (j+1)
     have gl2:=vC (B:=l) (i:=j) aa
     simp only[tt,seval,d1']
     have c2:=pN ⟨(l.drop j).toArray⟩ 10
     have e3:Lib.indexByte (⟨(l.drop j).toArray⟩:ByteArray).data.toList 10=if dv l j<l.length then ((dv l j:Nat):Int)-j else -1:=by
      show Lib.indexByte (l.drop j) 10=_
      rw[FC,List.length_drop]
      have:dv l j=j+((l.drop j).takeWhile fun b=>!(b==10)).length:=rfl
      split<;>split<;>omega
     rw[e3] at c2
     refine cZ (c2) ?_ ?_<;>simp only[tt,seval,h1]
     cases n with
     |zero=>exact absurd hn aa
     |succ n=>
     rw[dq] at he
     by_cases hE:dv l j<l.length
     ·have hv:l[dv l j]?=some 10:=by
       have:=fp (B:=l) (dv l j)
       have h2:=zQ l _ j (Nat.le_refl _)
       rw[aD hE] at this ⊢
       simp only at this
       split at this
       ·rename_i h;rw[h]
       ·have:=lp (B:=l) (dv l j+1);omega
      rw[hv] at he
      simp only[show mW 10=true from rfl,if_true] at he
      have f1:((if dv l j<l.length then ((dv l j:Nat):Int)-j else -1)<0)=False:=eq_false (by rw[if_pos hE];omega)
      have f1':(((dv l j:Nat):Int)-j<0)=False:=eq_false aa
      simp only[tt,seval,f1',hE]
      rw[ax (n:=((dv l j:Nat):Int)-j+1) aa aa,ax (n:=(j:Int)+(((dv l j:Nat):Int)-j+1)) aa aa]
      exact⟨[],none,ao _,aq _,⟨dv l j+1,n,iU aa,aa,he,aa,rfl,rfl⟩,aB⟩
     ·rw[List.getElem?_eq_none_iff.2 aa] at he
      simp only at he
      injection he with he;injection he with he1 he2;subst he1 he2
      have f1:((if dv l j<l.length then ((dv l j:Nat):Int)-j else -1)<0)=True:=eq_true (by rw[if_neg hE];omega)
      simp only[tt,seval,f1]
      refine fun _=>⟨.tu [([.v (.int .i64 (s.size:Nat))],true),([.v (.bool true)],true)],[],?_,ap rfl⟩
      rw[show dv l j=s.size by omega];rfl
    ·have d1:decide (l[j]=45/\l[j+1]?=some 45)=false:=au hd
     have d1':(l[j]=45/\l[j+1]?=some 45)=False:=eq_false hd
     rw[if_neg hd] at he
     simp only[tt,seval,d1']
     have c2:=lR ⟨(l.drop j).toArray⟩ ⟨#[47,42]⟩
     have e3:Lib.hasPrefix (⟨(l.drop j).toArray⟩:ByteArray).data.toList (⟨#[47,42]⟩:ByteArray).data.toList=decide (l[j]=47/\l[j+1]?=some 42):=by
      show Lib.hasPrefix (l.drop j) [47,42]=_
      rw[HW,aD hil];simp
     rw[e3] at c2
     refine cZ (c2) ?_ ?_<;>simp only[tt,seval,h1]
     by_cases hc:l[j]=47/\l[j+1]?=some 42
     ·have d2:decide (l[j]=47/\l[j+1]?=some 42)=true:=az hc
      have d2':(l[j]=47/\l[j+1]?=some 42)=True:=eq_true hc
      rw[if_pos hc] at he
      have hj2:j+1<l.length:=(List.getElem?_eq_some_iff.1 hc.2).1
      simp only[tt,seval,d2']
      have hrz:(⟨(l.drop j).toArray⟩:ByteArray).size=l.length-j:=by show (l.drop j).toArray.size=_;simp
      rw[ms ae (show ByteArray.size _<=9223372036854775807 by omega) aa aa]
      have e4:(⟨(l.drop j).toArray⟩:ByteArray).extract (2:Int).toNat (⟨(l.drop j).toArray⟩:ByteArray).size=⟨(l.drop (j+2)).toArray⟩:=by
       rw[uF (l:=l.drop j) (by simp)]
       simp [List.drop_drop]
      rw[e4]
      simp only[tt,seval]
      have c3:=Dg ⟨(l.drop (j+2)).toArray⟩ ⟨#[42,47]⟩ (by show (l.drop (j+2)).toArray.size<=_;simp;omega)
      have e5:Lib.index (⟨(l.drop (j+2)).toArray⟩:ByteArray).data.toList (⟨#[42,47]⟩:ByteArray).data.toList=Lib.index (l.drop (j+2)) [42,47]:=rfl
      rw[e5] at c3
      have hx:=zR l (l.length+1) (j+2) aa aa
      have hg:=Lib.index_ge (l.drop (j+2)) [42,47]
      generalize Lib.index (l.drop (j+2)) [42,47]=ix at *
      refine cZ (c3) ?_ ?_<;>simp only[tt,seval,h1]
      rw[hx] at he
      by_cases hm:ix = -1
      ·rw[if_pos hm] at he
       simp only at he
       injection he with he;injection he with he1 he2;subst he1 he2
       have f1:(ix<0)=True:=eq_true aa
       simp only[tt,seval,f1]
       exact⟨_,_,rfl,ap rfl⟩
      ·rw[if_neg hm] at he hx
       have hsp:=ke hx
       simp only at he
       have f1:(ix<0)=False:=eq_false aa
       simp only[tt,seval,f1]
       rw[ax (n:=ix+4) aa aa,ax (n:=(j:Int)+(ix+4)) aa aa]
       exact⟨[],none,ao _,aq _,⟨j+2+ix.toNat+2,n,iU aa,aa,he,aa,rfl,rfl⟩,aB⟩
     ·have d2:decide (l[j]=47/\l[j+1]?=some 42)=false:=au hc
      have d2':(l[j]=47/\l[j+1]?=some 42)=False:=eq_false hc
      rw[if_neg hc] at he
      injection he with he;injection he with he1 he2;subst he1 he2
      simp only[tt,seval,d2']
      exact⟨_,_,rfl,ap rfl⟩
  ·have:j=s.size:=by omega
   subst this
   rw[List.getElem?_eq_none_iff.2 aa] at he
   simp only at he
   injection he with he;injection he with he1 he2;subst he1 he2
   exact⟨_,_,rfl,ap rfl⟩
end Go.Proofs.YtbodcedhmccenaaGreatDoor
set_option maxRecDepth 8000
namespace Go.Proofs.YtbodcedhmccenaaGreatDoor
open Go Go.Dv
open Go.Vc (D dg dh cX bk)
theorem JI {l:List UInt8} {a:Nat} (k:Nat) (s:List UInt8) (h:s <+: l.drop a) (hs:s.length=k):(⟨s.toArray⟩:ByteArray)=aN l a (a+k):=by
 unfold aN
 rw[Nat.add_sub_cancel_left,<-hs,<-List.prefix_iff_eq_take.1 h]
structure BestI (S:List ByteArray) (m:List UInt8) (t:ByteArray):Prop where
 got:t=⟨#[]⟩∨(t∈S/\t.data.toList <+: m)
 most:∀s∈S,s.data.toList <+: m->s.size<=t.size
theorem BestI.nil (m:List UInt8):BestI [] m ⟨#[]⟩:=⟨.inl rfl,fun _ h=>by cases h⟩
theorem BestI.yes {S:List ByteArray} {m:List UInt8} {t s:ByteArray} (h:BestI S m t) (hp:s.data.toList <+: m) (hl:t.size<s.size):BestI (S++[s]) m s:=
 ⟨.inr ⟨by simp,hp⟩,fun x hx hm=>by
   rcases List.mem_append.1 hx with hx|hx
   ·have:=h.most x hx hm;omega
   ·rw[List.mem_singleton.1 hx];exact Nat.le_refl _⟩
theorem BestI.no {S:List ByteArray} {m:List UInt8} {t s:ByteArray} (h:BestI S m t) (hp:s.data.toList <+: m->s.size<=t.size):BestI (S++[s]) m t:=
 ⟨h.got.imp id fun ⟨h1,h2⟩=>⟨by simp [h1],h2⟩,fun x hx hm=>by
   rcases List.mem_append.1 hx with hx|hx
   ·exact h.most x hx hm
   ·rw[List.mem_singleton.1 hx] at hm ⊢;exact hp hm⟩
theorem kr:∀s∈signs,1<=s.size/\s.size<=2:=by decide
theorem mt {s:ByteArray}:cW s=true↔s∈signs:=by
 unfold cW
 simp [List.any_eq_true]
theorem zS (l:List UInt8) (a k:Nat):(aN l a (a+k)).data.toList <+: l.drop a:=by
 unfold aN
 rw[Nat.add_sub_cancel_left]
 exact List.take_prefix _ _
theorem B9 {l:List UInt8} {a:Nat} {t:ByteArray} (ha:a<l.length) (h:BestI signs (l.drop a) t):(t=aN l a (bQ l a)/\a+t.size=bQ l a)∨(cW t=false/\cW (aN l a (bQ l a))=false):=by
 have hlen:∀k,a+k<=l.length->(aN l a (a+k)).size=k:=fun k hk=>by
  unfold aN
  show ((l.drop a).take (a+k-a)).toArray.size=_
  simp;omega
 have ht2:t.size<=2:=by
  rcases h.got with rfl|⟨h1,_⟩
  ·exact Nat.zero_le _
  ·exact (kr _ h1).2
 have cutt:∀k,t.size=k->1<=k->t=aN l a (a+k)/\t∈signs:=fun k hk h1=>by
  rcases h.got with rfl|⟨h2,h3⟩
  ·exact absurd hk (by show ¬(0=k);omega)
  ·exact⟨JI k t.data.toList h3 (by rw[<-hk];simp),h2⟩
 unfold bQ
 by_cases c2:a+2<=l.length/\cW (aN l a (a+2))=true
 ·rw[if_pos c2]
  have:=h.most _ (mt.1 c2.2) (zS l a 2)
  rw[hlen 2 c2.1] at this
  have hz:t.size=2:=by omega
  exact .inl ⟨(cutt 2 hz aa).1,aa⟩
 ·rw[if_neg c2]
  have h2:t.size≠2:=fun hz=>by
   obtain⟨e,hm⟩:=cutt 2 hz aa
   refine c2 ⟨?_,by rw[<-e];exact mt.2 hm⟩
   have:(aN l a (a+2)).size<=l.length-a:=by
    unfold aN
    show ((l.drop a).take (a+2-a)).toArray.size<=_
    simp;omega
   rw[<-e] at this
   omega
  by_cases c1:cW (aN l a (a+1))=true
  ·have:=h.most _ (mt.1 c1) (zS l a 1)
   rw[hlen 1 aa] at this
   have hz:t.size=1:=by omega
   exact .inl ⟨(cutt 1 hz aa).1,aa⟩
  ·refine .inr ⟨?_,by simpa using c1⟩
   by_cases hz:t.size=1
   ·obtain⟨e,hm⟩:=cutt 1 hz aa
    exact absurd (by rw[<-e];exact mt.2 hm) c1
   ·rcases h.got with rfl|⟨h3,_⟩
    ·rfl
    ·have:=(kr _ h3).1;omega
set_option maxHeartbeats 8000000 in
theorem wQ (s:ByteArray) (a:Nat) (b:UInt8) (hs:s.size<=1048576) (hb:s.data.toList[a]?=some b):Cl Tryz.prog 239 [vs s,vi a] [] fun r _=>∃(t:Tok) (e:Int) (ok:Bool),r = .tu [(ar t.row,false),([.v (.int .i64 e)],true),([.v (.bool ok)],true)]/\ok=(bg s.data.toList a b).isSome/\∀t' e',bg s.data.toList a b=some (t',e')->t=t'/\e=e':=by
 obtain⟨l,hl⟩:∃l,l=s.data.toList:=⟨_,rfl⟩
 have hll:l.length=s.size:=by rw[hl];exact aE s
 rw[<-hl] at hb ⊢
 obtain⟨ha,hba⟩:=List.getElem?_eq_some_iff.1 hb
 refine ai ac false Tryz.func239 rfl ae ?_
 simp only[Tryz.f239,tt,seval]
 rw[cI hl ha,hba]
 simp only[tt,seval]
 refine cZ (qy b.toNat) ?_ ?_<;>simp only[tt,seval]
 cases hP:jX b.toNat||decide ((48:Int)<=(b.toNat:Int)/\(b.toNat:Int)<=57) with
 |true=>
  simp only[tt,seval]
  have hrl:=lq (B:=l) a
  have hrh:=nK (B:=l) (i:=a) aa
  refine dLoop.intro (fun f' L p=>∃j:Nat,f' 8=vi j/\j<=s.size/\aS l j=aS l a/\L=[(7,.str [.v (.int .i64 0),.v (.string ByteArray.empty),.v (.int .i64 a)]),(4,.str [.v (.int .i64 0),.v (.string ByteArray.empty),.v (.int .i64 0)])]/\p=none) (fun f' _ _=>(s.size-eH (f' 8)).toNat) [(7,.str [.v (.int .i64 0),.v (.string ByteArray.empty),.v (.int .i64 a)]),(4,.str [.v (.int .i64 0),.v (.string ByteArray.empty),.v (.int .i64 0)])] none ⟨ak rfl (ak rfl (ao _)),aq _,?_⟩ ?_
  ·simp only[tt,seval]
   exact⟨a,rfl,aa,rfl⟩
  ·rintro g L p ⟨j,h8,hj,he,rfl,rfl⟩
   simp only[tt,seval] at h8
   simp only[tt,seval,h8,Int.ofNat_lt]
   refine fun _=>?_
   by_cases hlt:j<s.size
   ·have hil:j<l.length:=by omega
    simp only[tt,seval,h8,hlt]
    rw[cI hl hil]
    simp only[tt,seval]
    refine cZ (qy l[j].toNat) ?_ ?_<;>simp only[tt,seval,h8]
    cases hL:jX l[j].toNat||decide ((48:Int)<=(l[j].toNat:Int)/\(l[j].toNat:Int)<=57) with
    |true=>
     simp only[tt,seval]
     rw[ax (n:=(j:Int)+1) aa aa]
     exact⟨[(7,.str [.v (.int .i64 0),.v (.string ByteArray.empty),.v (.int .i64 a)]),(4,.str [.v (.int .i64 0),.v (.string ByteArray.empty),.v (.int .i64 0)])],none,ak rfl (ak rfl (ao _)),aq _,⟨j+1,rfl,aa,by rw[ph hil hL,he],rfl,rfl⟩,aB⟩
    |false=>
     have ej:j=aS l a:=by rw[<-he,wO hil hL]
     subst ej
     simp only[tt,seval]
     have hsz:(aN l a (aS l a)).size<=1048576:=by rw[iE];omega
     refine dDrawn.intro [] (j3 [0,2,4,6,8,11,12,15]) ae ?_
     simp only[tt,seval]
     all_goals try simp only[tt,seval,h8]
     all_goals rw[iC ae (show s.size<=9223372036854775807 by omega) aa aa aa,Int.toNat_natCast,Int.toNat_natCast,iD hl]
     generalize hx:aN l a (aS l a)=x at *
     simp only[tt,seval]
     refine cZ (me b.toNat) ?_ ?_<;>simp only[tt,seval]
     cases hF:decide ((48:Int)<=(b.toNat:Int)/\(b.toNat:Int)<=57) with
     |true=>
      have hF':=of_decide_eq_true hF
      have hL:jX b.toNat=false:=by unfold jX;simp only[Bool.or_eq_false_iff,decide_eq_false_iff_not];omega
      have eF:((48:Int)<=(b.toNat:Int)/\(b.toNat:Int)<=57)=True:=eq_true hF'
      have hraw:cD l a b=some (⟨3,x,a⟩,aS l a):=by
       unfold cD
       simp only[bB,bX,hL,hF,if_true,Bool.false_eq_true,if_false,hx]
      simp only[tt,seval,eF]
      refine dDrawn.intro [] (j3 [0,2,4,7,9,10,12]) ae ?_
      simp only[tt,seval]
      all_goals try simp only[tt,seval,h8]
      all_goals repeat' first|refine dO ?_ ?_|refine bz ?_ ?_
      all_goals
       refine cZ (cC (Tok.mk 3 x a) hsz) ?_ ?_<;>simp only[tt,seval,Tok.row]
      all_goals
       cases ho:aJ (Tok.mk 3 x a) with
       |true=>
        have e1:bg l a b=some ((Tok.mk 3 x a),aS l a):=dy hraw ho
        rw[e1]
        refine⟨.tu [(ar (Tok.mk 3 x a).row,false),([.v (.int .i64 ((aS l a:Nat):Int))],true),([.v (.bool true)],true)],[],⟨(Tok.mk 3 x a),_,_,rfl,by rfl,fun t' e' h=>by cases h;exact⟨rfl,rfl⟩⟩,am ?_⟩
        simp only[tt,seval,Tok.row]
       |false=>
        have e1:bg l a b=none:=eB hraw ho
        rw[e1]
        refine⟨.tu [(ar (Tok.mk 3 x a).row,false),([.v (.int .i64 ((aS l a:Nat):Int))],true),([.v (.bool false)],true)],[],⟨(Tok.mk 3 x a),_,_,rfl,by rfl,by first|exact fun t' e' h=>by cases h|exact fun _ _ h=>(by cases h)⟩,am ?_⟩
        simp only[tt,seval,Tok.row]
     |false=>
      have hF':=of_decide_eq_false hF
      have hL:jX b.toNat=true:=by rw[hF,Bool.or_false] at hP;exact hP
      have eF:((48:Int)<=(b.toNat:Int)/\(b.toNat:Int)<=57)=False:=eq_false hF'
      have hraw:cD l a b=some (if key x=0 then ⟨2,x,a⟩ else ⟨1,bW x,a⟩,aS l a):=by
       unfold cD
       simp only[bB,hL,if_true,hx]
      simp only[tt,seval,eF]
      refine cZ (nD x hsz) ?_ ?_<;>simp only[tt,seval]
      by_cases hk:key x=0
      ·rw[if_pos hk] at hraw
       have ek:(!decide (key x=0))=false:=by rw[az hk];rfl
       have ek':(¬key x=0)=False:=eq_false (not_not_intro hk)
       have ek2:(key x=0)=True:=eq_true hk
       simp only[tt,seval,ek2]
       refine dDrawn.intro [] (j3 [0,2,4,7,9,10,12]) ae ?_
       simp only[tt,seval]
       all_goals try simp only[tt,seval,h8]
       all_goals repeat' first|refine dO ?_ ?_|refine bz ?_ ?_
       all_goals
        refine cZ (cC (Tok.mk 2 x a) hsz) ?_ ?_<;>simp only[tt,seval,Tok.row]
       all_goals
        cases ho:aJ (Tok.mk 2 x a) with
        |true=>
         have e1:bg l a b=some ((Tok.mk 2 x a),aS l a):=dy hraw ho
         rw[e1]
         refine⟨.tu [(ar (Tok.mk 2 x a).row,false),([.v (.int .i64 ((aS l a:Nat):Int))],true),([.v (.bool true)],true)],[],⟨(Tok.mk 2 x a),_,_,rfl,by rfl,fun t' e' h=>by cases h;exact⟨rfl,rfl⟩⟩,am ?_⟩
         simp only[tt,seval,Tok.row]
        |false=>
         have e1:bg l a b=none:=eB hraw ho
         rw[e1]
         refine⟨.tu [(ar (Tok.mk 2 x a).row,false),([.v (.int .i64 ((aS l a:Nat):Int))],true),([.v (.bool false)],true)],[],⟨(Tok.mk 2 x a),_,_,rfl,by rfl,by first|exact fun t' e' h=>by cases h|exact fun _ _ h=>(by cases h)⟩,am ?_⟩
         simp only[tt,seval,Tok.row]
      ·rw[if_neg hk] at hraw
       have ek2:(key x=0)=False:=eq_false hk
       simp only[tt,seval,ek2]
       refine cZ (qc x hsz) ?_ ?_<;>simp only[tt,seval]
       refine dDrawn.intro [] (j3 [0,2,4,7,9,10,12]) ae ?_
       simp only[tt,seval]
       all_goals try simp only[tt,seval,h8]
       all_goals repeat' first|refine dO ?_ ?_|refine bz ?_ ?_
       all_goals
        refine cZ (cC (Tok.mk 1 (bW x) a) (by show (bW x).size<=_;rw[g7];exact hsz)) ?_ ?_<;>simp only[tt,seval,Tok.row]
       all_goals
        cases ho:aJ (Tok.mk 1 (bW x) a) with
        |true=>
         have e1:bg l a b=some ((Tok.mk 1 (bW x) a),aS l a):=dy hraw ho
         rw[e1]
         refine⟨.tu [(ar (Tok.mk 1 (bW x) a).row,false),([.v (.int .i64 ((aS l a:Nat):Int))],true),([.v (.bool true)],true)],[],⟨(Tok.mk 1 (bW x) a),_,_,rfl,by rfl,fun t' e' h=>by cases h;exact⟨rfl,rfl⟩⟩,am ?_⟩
         simp only[tt,seval,Tok.row]
        |false=>
         have e1:bg l a b=none:=eB hraw ho
         rw[e1]
         refine⟨.tu [(ar (Tok.mk 1 (bW x) a).row,false),([.v (.int .i64 ((aS l a:Nat):Int))],true),([.v (.bool false)],true)],[],⟨(Tok.mk 1 (bW x) a),_,_,rfl,by rfl,by first|exact fun t' e' h=>by cases h|exact fun _ _ h=>(by cases h)⟩,am ?_⟩
         simp only[tt,seval,Tok.row]
   ·have ej:j=aS l a:=by rw[<-he,tG aa]
    subst ej
    simp only[tt,seval,h8,hlt]
    have hsz:(aN l a (aS l a)).size<=1048576:=by rw[iE];omega
    refine dDrawn.intro [] (j3 [0,2,4,6,8,11,12,15]) ae ?_
    simp only[tt,seval]
    all_goals try simp only[tt,seval,h8]
    all_goals rw[iC ae (show s.size<=9223372036854775807 by omega) aa aa aa,Int.toNat_natCast,Int.toNat_natCast,iD hl]
    generalize hx:aN l a (aS l a)=x at *
    simp only[tt,seval]
    refine cZ (me b.toNat) ?_ ?_<;>simp only[tt,seval]
    cases hF:decide ((48:Int)<=(b.toNat:Int)/\(b.toNat:Int)<=57) with
    |true=>
     have hF':=of_decide_eq_true hF
     have hL:jX b.toNat=false:=by unfold jX;simp only[Bool.or_eq_false_iff,decide_eq_false_iff_not];omega
     have eF:((48:Int)<=(b.toNat:Int)/\(b.toNat:Int)<=57)=True:=eq_true hF'
     have hraw:cD l a b=some (⟨3,x,a⟩,aS l a):=by
      unfold cD
      simp only[bB,bX,hL,hF,if_true,Bool.false_eq_true,if_false,hx]
     simp only[tt,seval,eF]
     refine dDrawn.intro [] (j3 [0,2,4,7,9,10,12]) ae ?_
     simp only[tt,seval]
     all_goals try simp only[tt,seval,h8]
     all_goals repeat' first|refine dO ?_ ?_|refine bz ?_ ?_
     all_goals
      refine cZ (cC (Tok.mk 3 x a) hsz) ?_ ?_<;>simp only[tt,seval,Tok.row]
     all_goals
      cases ho:aJ (Tok.mk 3 x a) with
      |true=>
       have e1:bg l a b=some ((Tok.mk 3 x a),aS l a):=dy hraw ho
       rw[e1]
       refine⟨.tu [(ar (Tok.mk 3 x a).row,false),([.v (.int .i64 ((aS l a:Nat):Int))],true),([.v (.bool true)],true)],[],⟨(Tok.mk 3 x a),_,_,rfl,by rfl,fun t' e' h=>by cases h;exact⟨rfl,rfl⟩⟩,am ?_⟩
       simp only[tt,seval,Tok.row]
      |false=>
       have e1:bg l a b=none:=eB hraw ho
       rw[e1]
       refine⟨.tu [(ar (Tok.mk 3 x a).row,false),([.v (.int .i64 ((aS l a:Nat):Int))],true),([.v (.bool false)],true)],[],⟨(Tok.mk 3 x a),_,_,rfl,by rfl,by first|exact fun t' e' h=>by cases h|exact fun _ _ h=>(by cases h)⟩,am ?_⟩
       simp only[tt,seval,Tok.row]
    |false=>
     have hF':=of_decide_eq_false hF
     have hL:jX b.toNat=true:=by rw[hF,Bool.or_false] at hP;exact hP
     have eF:((48:Int)<=(b.toNat:Int)/\(b.toNat:Int)<=57)=False:=eq_false hF'
     have hraw:cD l a b=some (if key x=0 then ⟨2,x,a⟩ else ⟨1,bW x,a⟩,aS l a):=by
      unfold cD
      simp only[bB,hL,if_true,hx]
     simp only[tt,seval,eF]
     refine cZ (nD x hsz) ?_ ?_<;>simp only[tt,seval]
     by_cases hk:key x=0
     ·rw[if_pos hk] at hraw
      have ek:(!decide (key x=0))=false:=by rw[az hk];rfl
      have ek':(¬key x=0)=False:=eq_false (not_not_intro hk)
      have ek2:(key x=0)=True:=eq_true hk
      simp only[tt,seval,ek2]
      refine dDrawn.intro [] (j3 [0,2,4,7,9,10,12]) ae ?_
      simp only[tt,seval]
      all_goals try simp only[tt,seval,h8]
      all_goals repeat' first|refine dO ?_ ?_|refine bz ?_ ?_
      all_goals
       refine cZ (cC (Tok.mk 2 x a) hsz) ?_ ?_<;>simp only[tt,seval,Tok.row]
      all_goals
       cases ho:aJ (Tok.mk 2 x a) with
       |true=>
        have e1:bg l a b=some ((Tok.mk 2 x a),aS l a):=dy hraw ho
        rw[e1]
        refine⟨.tu [(ar (Tok.mk 2 x a).row,false),([.v (.int .i64 ((aS l a:Nat):Int))],true),([.v (.bool true)],true)],[],⟨(Tok.mk 2 x a),_,_,rfl,by rfl,fun t' e' h=>by cases h;exact⟨rfl,rfl⟩⟩,am ?_⟩
        simp only[tt,seval,Tok.row]
       |false=>
        have e1:bg l a b=none:=eB hraw ho
        rw[e1]
        refine⟨.tu [(ar (Tok.mk 2 x a).row,false),([.v (.int .i64 ((aS l a:Nat):Int))],true),([.v (.bool false)],true)],[],⟨(Tok.mk 2 x a),_,_,rfl,by rfl,by first|exact fun t' e' h=>by cases h|exact fun _ _ h=>(by cases h)⟩,am ?_⟩
        simp only[tt,seval,Tok.row]
     ·rw[if_neg hk] at hraw
      have ek2:(key x=0)=False:=eq_false hk
      simp only[tt,seval,ek2]
      refine cZ (qc x hsz) ?_ ?_<;>simp only[tt,seval]
      refine dDrawn.intro [] (j3 [0,2,4,7,9,10,12]) ae ?_
      simp only[tt,seval]
      all_goals try simp only[tt,seval,h8]
      all_goals repeat' first|refine dO ?_ ?_|refine bz ?_ ?_
      all_goals
       refine cZ (cC (Tok.mk 1 (bW x) a) (by show (bW x).size<=_;rw[g7];exact hsz)) ?_ ?_<;>simp only[tt,seval,Tok.row]
      all_goals
       cases ho:aJ (Tok.mk 1 (bW x) a) with
       |true=>
        have e1:bg l a b=some ((Tok.mk 1 (bW x) a),aS l a):=dy hraw ho
        rw[e1]
        refine⟨.tu [(ar (Tok.mk 1 (bW x) a).row,false),([.v (.int .i64 ((aS l a:Nat):Int))],true),([.v (.bool true)],true)],[],⟨(Tok.mk 1 (bW x) a),_,_,rfl,by rfl,fun t' e' h=>by cases h;exact⟨rfl,rfl⟩⟩,am ?_⟩
        simp only[tt,seval,Tok.row]
       |false=>
        have e1:bg l a b=none:=eB hraw ho
        rw[e1]
        refine⟨.tu [(ar (Tok.mk 1 (bW x) a).row,false),([.v (.int .i64 ((aS l a:Nat):Int))],true),([.v (.bool false)],true)],[],⟨(Tok.mk 1 (bW x) a),_,_,rfl,by rfl,by first|exact fun t' e' h=>by cases h|exact fun _ _ h=>(by cases h)⟩,am ?_⟩
        simp only[tt,seval,Tok.row]
 |false=>
  obtain⟨hL,hF⟩:=Bool.or_eq_false_iff.1 hP
  simp only[tt,seval]
  by_cases hb34:b=34
  ·have d34:decide ((b.toNat:Int)=34)=true:=az (by rw[hb34];rfl)
   have e39:((b.toNat:Int)=39)=False:=eq_false (by rw[hb34];decide)
   simp only[tt,seval,d34]
   have cq:=ox s a b hs (by rw[<-hl];exact hb)
   rw[<-hl] at cq
   refine cZ (cq) ?_ ?_<;>simp only[tt,seval]
   have hqs:=fun x e=>dW (B:=l) (q:=b) (n:=l.length+1) (i:=a+1) (l:=[]) (x:=x) (e:=e)
   cases hq:cN l b (l.length+1) (a+1) [] with
   |none=>
    have hr:cD l a b=none:=by rw[hb34] at hq ⊢;rw[uD,hq];rfl
    have e1:bg l a b=none:=by unfold bg;rw[hr]
    rw[e1]
    simp only[tt,seval,wP]
    refine⟨.tu [(ar (Tok.mk 0 ⟨#[]⟩ 0).row,false),([.v (.int .i64 0)],true),([.v (.bool false)],true)],[],⟨Tok.mk 0 ⟨#[]⟩ 0,_,_,by first|exact⟨rfl,rfl,fun _ _ h=>by cases h⟩|exact⟨rfl,rfl⟩|rfl⟩,am ?_⟩
    simp only[tt,seval,Tok.row]
    first|done|rfl
   |some y=>
    obtain⟨x,e⟩:=y
    have hr:cD l a b=some (⟨2,⟨x.toArray⟩,a⟩,e):=by rw[hb34] at hq ⊢;rw[uD,hq];rfl
    have hqs:=hqs x e hq
    simp only[tt,seval,wP,e39]
    refine dDrawn.intro [] (j3 [0,2,4,7,9,10,12]) ae ?_
    simp only[tt,seval]
    all_goals repeat' first|refine dO ?_ ?_|refine bz ?_ ?_
    all_goals
     refine cZ (cC (Tok.mk 2 ⟨x.toArray⟩ a) (by show x.length<=_;simp only[List.length_nil] at hqs;omega)) ?_ ?_<;>simp only[tt,seval,Tok.row]
    all_goals
     cases ho:aJ (Tok.mk 2 ⟨x.toArray⟩ a) with
     |true=>
      have e1:bg l a b=some ((Tok.mk 2 ⟨x.toArray⟩ a),e):=dy hr ho
      rw[e1]
      refine⟨.tu [(ar (Tok.mk 2 ⟨x.toArray⟩ a).row,false),([.v (.int .i64 ((e:Nat):Int))],true),([.v (.bool true)],true)],[],⟨(Tok.mk 2 ⟨x.toArray⟩ a),_,_,rfl,by rfl,fun t' e' h=>by cases h;exact⟨rfl,rfl⟩⟩,am ?_⟩
      simp only[tt,seval,Tok.row]
     |false=>
      have e1:bg l a b=none:=eB hr ho
      rw[e1]
      refine⟨.tu [(ar (Tok.mk 2 ⟨x.toArray⟩ a).row,false),([.v (.int .i64 ((e:Nat):Int))],true),([.v (.bool false)],true)],[],⟨(Tok.mk 2 ⟨x.toArray⟩ a),_,_,rfl,by rfl,by first|exact fun t' e' h=>by cases h|exact fun _ _ h=>(by cases h)⟩,am ?_⟩
      simp only[tt,seval,Tok.row]
  ·have d34:decide ((b.toNat:Int)=34)=false:=au fun h=>hb34 (UInt8.toNat_inj.1 (by show b.toNat=34;omega))
   by_cases hb39:b=39
   ·have d39:decide ((b.toNat:Int)=39)=true:=az (by rw[hb39];rfl)
    have e39:((b.toNat:Int)=39)=True:=eq_true (by rw[hb39];rfl)
    simp only[tt,seval,d34,d39]
    have cq:=ox s a b hs (by rw[<-hl];exact hb)
    rw[<-hl] at cq
    refine cZ (cq) ?_ ?_<;>simp only[tt,seval]
    have hqs:=fun x e=>dW (B:=l) (q:=b) (n:=l.length+1) (i:=a+1) (l:=[]) (x:=x) (e:=e)
    cases hq:cN l b (l.length+1) (a+1) [] with
    |none=>
     have hr:cD l a b=none:=by rw[hb39] at hq ⊢;rw[uE,hq];rfl
     have e1:bg l a b=none:=by unfold bg;rw[hr]
     rw[e1]
     simp only[tt,seval,wP]
     refine⟨.tu [(ar (Tok.mk 0 ⟨#[]⟩ 0).row,false),([.v (.int .i64 0)],true),([.v (.bool false)],true)],[],⟨Tok.mk 0 ⟨#[]⟩ 0,_,_,by first|exact⟨rfl,rfl,fun _ _ h=>by cases h⟩|exact⟨rfl,rfl⟩|rfl⟩,am ?_⟩
     simp only[tt,seval,Tok.row]
     first|done|rfl
    |some y=>
     obtain⟨x,e⟩:=y
     have hr:cD l a b=some (⟨4,⟨x.toArray⟩,a⟩,e):=by rw[hb39] at hq ⊢;rw[uE,hq];rfl
     have hqs:=hqs x e hq
     simp only[tt,seval,wP,e39]
     refine dDrawn.intro [] (j3 [0,2,4,7,9,10,12]) ae ?_
     simp only[tt,seval]
     all_goals repeat' first|refine dO ?_ ?_|refine bz ?_ ?_
     all_goals
      refine cZ (cC (Tok.mk 4 ⟨x.toArray⟩ a) (by show x.length<=_;simp only[List.length_nil] at hqs;omega)) ?_ ?_<;>simp only[tt,seval,Tok.row]
     all_goals
      cases ho:aJ (Tok.mk 4 ⟨x.toArray⟩ a) with
      |true=>
       have e1:bg l a b=some ((Tok.mk 4 ⟨x.toArray⟩ a),e):=dy hr ho
       rw[e1]
       refine⟨.tu [(ar (Tok.mk 4 ⟨x.toArray⟩ a).row,false),([.v (.int .i64 ((e:Nat):Int))],true),([.v (.bool true)],true)],[],⟨(Tok.mk 4 ⟨x.toArray⟩ a),_,_,rfl,by rfl,fun t' e' h=>by cases h;exact⟨rfl,rfl⟩⟩,am ?_⟩
       simp only[tt,seval,Tok.row]
      |false=>
       have e1:bg l a b=none:=eB hr ho
       rw[e1]
       refine⟨.tu [(ar (Tok.mk 4 ⟨x.toArray⟩ a).row,false),([.v (.int .i64 ((e:Nat):Int))],true),([.v (.bool false)],true)],[],⟨(Tok.mk 4 ⟨x.toArray⟩ a),_,_,rfl,by rfl,by first|exact fun t' e' h=>by cases h|exact fun _ _ h=>(by cases h)⟩,am ?_⟩
       simp only[tt,seval,Tok.row]
   ·have d39:decide ((b.toNat:Int)=39)=false:=au fun h=>hb39 (UInt8.toNat_inj.1 (by show b.toNat=39;omega))
    have hraw:cD l a b=some (⟨5,aN l a (bQ l a),a⟩,bQ l a):=by
     unfold cD
     simp only[bB,bX,hL,hF,hb34,hb39,Bool.false_eq_true,if_false]
    simp only[tt,seval,d34,d39]
    refine cZ (yR) ?_ ?_<;>simp only[tt,seval]
    refine dLoop.intro (fun f' L p=>∃(i:Nat) (t:ByteArray),f' 24=vi i/\i<=16/\BestI (signs.take i) (l.drop a) t/\L=[(7,.str [.v (.int .i64 5),.v (.string t),.v (.int .i64 a)]),(4,.str [.v (.int .i64 0),.v (.string ByteArray.empty),.v (.int .i64 0)])]/\p=none) (fun f' _ _=>(16-eH (f' 24)).toNat) [(7,.str [.v (.int .i64 5),.v (.string ByteArray.empty),.v (.int .i64 a)]),(4,.str [.v (.int .i64 0),.v (.string ByteArray.empty),.v (.int .i64 0)])] none ⟨ak rfl (ak rfl (ao _)),aq _,?_⟩ ?_
    ·simp only[tt,seval]
     exact⟨0,ByteArray.empty,rfl,aa,BestI.nil _,rfl⟩
    ·rintro g L p ⟨i,t,h24,hi,hbest,rfl,rfl⟩
     simp only[tt,seval] at h24
     have ht20:t.size<=2:=by
      rcases hbest.got with rfl|⟨h1,_⟩
      ·exact Nat.zero_le _
      ·exact (kr _ (List.mem_of_mem_take h1)).2
     have i16:((16:Nat):Int)=16:=rfl
     simp only[tt,seval,h24]
     by_cases hlt:i<16
     ·have hls:i<signs.length:=hlt
      have c1:((i:Int)<16)=True:=eq_true aa
      have hst:signs.take (i+1)=signs.take i++[signs[i]]:=List.take_succ_eq_append_getElem hls
      have hx:signs[i]?=some signs[i]:=aD hls
      have hsz:=kr _ (aO hls)
      simp only[tt,seval,c1]
      refine⟨aa,_,aH fE hx,jY _ _,?_⟩
      generalize signs[i]=sg at *
      simp only[tt,seval,srow]
      rw[ms ae (show s.size<=9223372036854775807 by omega) aa aa,Int.toNat_natCast,uF hl]
      simp only[tt,seval]
      have cp:=lR ⟨(l.drop a).toArray⟩ sg
      have epx:Lib.hasPrefix (⟨(l.drop a).toArray⟩:ByteArray).data.toList sg.data.toList=sg.data.toList.isPrefixOf (l.drop a):=rfl
      rw[epx] at cp
      refine cZ (cp) ?_ ?_<;>simp only[tt,seval]
      cases hpx:sg.data.toList.isPrefixOf (l.drop a) with
      |true=>
       have hpx':=List.isPrefixOf_iff_prefix.1 hpx
       simp only[tt,seval,h24]
       refine fun _ _=>ab (fun h=>?_) (fun h=>?_)
       ·rw[eS i aa]
        exact⟨[(7,.str [.v (.int .i64 5),.v (.string sg),.v (.int .i64 a)]),(4,.str [.v (.int .i64 0),.v (.string ByteArray.empty),.v (.int .i64 0)])],none,ak rfl (ak rfl (ao _)),aq _,⟨i+1,sg,rfl,aa,by rw[hst];exact hbest.yes hpx' aa,rfl,rfl⟩,aB⟩
       ·rw[eS i aa]
        exact⟨[(7,.str [.v (.int .i64 5),.v (.string t),.v (.int .i64 a)]),(4,.str [.v (.int .i64 0),.v (.string ByteArray.empty),.v (.int .i64 0)])],none,ak rfl (ak rfl (ao _)),aq _,⟨i+1,t,rfl,aa,by rw[hst];exact hbest.no fun _=>by omega,rfl,rfl⟩,aB⟩
      |false=>
       have hpx':¬sg.data.toList <+: l.drop a:=fun h=>by rw[List.isPrefixOf_iff_prefix.2 h] at hpx;cases hpx
       simp only[tt,seval,h24]
       rw[eS i aa]
       exact⟨[(7,.str [.v (.int .i64 5),.v (.string t),.v (.int .i64 a)]),(4,.str [.v (.int .i64 0),.v (.string ByteArray.empty),.v (.int .i64 0)])],none,ak rfl (ak rfl (ao _)),aq _,⟨i+1,t,rfl,aa,by rw[hst];exact hbest.no fun h=>absurd h hpx',rfl,rfl⟩,aB⟩
     ·have hi16:i=16:=by omega
      subst hi16
      have c1:(((16:Nat):Int)<16)=False:=eq_false aa
      have hbest:BestI signs (l.drop a) t:=hbest
      simp only[tt,seval]
      refine fun _=>?_
      rw[ax (n:=(a:Int)+t.size) aa aa]
      refine dDrawn.intro [] (j3 [0,2,4,7,9,10,12]) ae ?_
      simp only[tt,seval]
      all_goals try simp only[tt,seval,h24]
      all_goals repeat' first|refine dO ?_ ?_|refine bz ?_ ?_
      all_goals
       refine cZ (cC (Tok.mk 5 t a) (by show t.size<=_;omega)) ?_ ?_<;>simp only[tt,seval,Tok.row]
      all_goals
       rcases B9 ha hbest with⟨ht,hte⟩|⟨ht,hte⟩
       ·cases ho:aJ (Tok.mk 5 t a) with
        |true=>
         have e1:bg l a b=some (Tok.mk 5 t a,bQ l a):=dy (by rw[ht];exact hraw) ho
         rw[e1]
         refine⟨.tu [(ar (Tok.mk 5 t a).row,false),([.v (.int .i64 (bQ l a:Nat))],true),([.v (.bool true)],true)],[],⟨Tok.mk 5 t a,_,_,rfl,by rfl,fun t' e' h=>by cases h;exact⟨rfl,rfl⟩⟩,am ?_⟩
         simp only[tt,seval,Tok.row]
         omega
        |false=>
         have e1:bg l a b=none:=eB hraw (by rw[<-ht];exact ho)
         rw[e1]
         refine⟨.tu [(ar (Tok.mk 5 t a).row,false),([.v (.int .i64 ((a:Int)+t.size))],true),([.v (.bool false)],true)],[],⟨Tok.mk 5 t a,_,_,rfl,by rfl,by first|exact fun t' e' h=>by cases h|exact fun _ _ h=>(by cases h)⟩,am ?_⟩
         simp only[tt,seval,Tok.row]
       ·have ho:aJ (Tok.mk 5 t a)=false:=ht
        have e1:bg l a b=none:=eB hraw hte
        rw[e1]
        refine⟨.tu [(ar (Tok.mk 5 t a).row,false),([.v (.int .i64 ((a:Int)+t.size))],true),([.v (.bool false)],true)],[],⟨Tok.mk 5 t a,_,_,rfl,by rfl,by first|exact fun t' e' h=>by cases h|exact fun _ _ h=>(by cases h)⟩,am ?_⟩
        simp only[tt,seval,Tok.row,ho]
set_option maxHeartbeats 4000000 in
theorem Dh (s:ByteArray):Cl Tryz.prog 143 [vs s] [] fun r _=>r = .tu [([.sl (sB (fJ s)).1.length ((sB (fJ s)).1.flatMap Tok.row) none],true),([.v (.int .i64 (sB (fJ s)).2)],true)]:=by
 obtain⟨l,hl⟩:∃l,l=s.data.toList:=⟨_,rfl⟩
 have hll:l.length=s.size:=by rw[hl];exact aE s
 obtain⟨rr,hrr⟩:=qg (B:=l) (l.length+1) 0 [] aa aa
 refine ai ac false Tryz.func143 rfl ae ?_
 simp only[Tryz.f143,tt,seval]
 refine fun _=>ab (fun hg=>?_) (fun hg=>?_)
 ·have e:fJ s = .inr 2000:=by unfold fJ;rw[if_pos aa]
  rw[e]
  refine⟨.tu [([.sl 0 [] none],true),([.v (.int .i64 2000)],true)],[],rfl,am ?_⟩
  simp only[tt,seval]
 have hs:s.size<=1048576:=by omega
 have e:fJ s=rr:=by unfold fJ;rw[if_neg aa,<-hl,hrr];rfl
 rw[e]
 refine dLoop.gh [.ren 14 42] ⟨ah,ah,?_⟩
 refine dLoop0.intro (fun f' L p=>∃(i n:Nat) (m:List Tok),f' 5=vi i/\f' 4 = .c (.s 42 m.length)/\i<=s.size/\m.length<=i/\lj l n i m=some rr/\l.length+1<=n+i/\L=[(42,.arr 150 m.length (m.flatMap Tok.row) none)]/\p=none) (fun f' _ _=>(s.size-eH (f' 5)).toNat) [(42,.arr 150 0 [] none)] none ⟨ak rfl (ao _),aq _,?_⟩ ?_
 ·simp only[tt,seval]
  exact⟨0,l.length+1,[],rfl,rfl,aa,by simp,hrr,aa,rfl⟩
 ·rintro g L p ⟨i,n,m,h5,h4,hi,hml,he,hn,rfl,rfl⟩
  simp only[tt,seval] at h5 h4
  cases n with
  |zero=>exact absurd hn aa
  |succ n=>
  rw[lj] at he
  obtain⟨q,okb,hp,hiq,hqs⟩:=fv (B:=l) (l.length+1) i aa aa
  rw[hp] at he
  simp only at he
  have cp:=HY s i hs hi
  rw[<-hl,hp] at cp
  simp only[tt,seval,h5]
  refine cZ (cp) ?_ ?_<;>simp only[tt,seval,h4,IZ]
  cases okb with
  |false=>
   rw[if_pos rfl] at he
   injection he with he;subst he
   simp only[tt,seval]
   refine⟨.tu [([.sl 0 [] none],true),([.v (.int .i64 (q:Nat))],true)],[],rfl,am ?_⟩
   simp only[tt,seval]
  |true=>
   rw[if_neg (by simp)] at he
   simp only[tt,seval]
   refine fun _=>?_
   by_cases hqe:s.size<=q
   ·have hq1:((q:Int)=(s.size:Int))=True:=eq_true aa
    have hq2:(q=s.size)=True:=eq_true aa
    rw[List.getElem?_eq_none_iff.2 aa] at he
    simp only at he
    injection he with he;subst he
    simp only[tt,seval,hq1]
    refine⟨.tu [([.sl m.length (m.flatMap Tok.row) none],true),([.v (.int .i64 (-1))],true)],[],rfl,am ?_⟩
    simp only[tt,seval]
   ·have hq1:((q:Int)=(s.size:Int))=False:=eq_false aa
    have hq2:(q=s.size)=False:=eq_false aa
    have hql:q<l.length:=by omega
    have hb:l[q]?=some l[q]:=aD hql
    rw[hb] at he
    simp only at he
    have co:=wQ s q l[q] hs (by rw[<-hl];exact hb)
    rw[<-hl] at co
    have osp:=fun t e=>io (e:=e) (t:=t) hb
    generalize l[q]=b at *
    simp only[tt,seval,hq1]
    cases ho:bg l q b with
    |none=>
     rw[ho] at he co
     simp only at he
     injection he with he;subst he
     refine fV (co) ?_ ?_ ?_
     ·decide
     ·simp only[tt,seval]
     rintro r ⟨t,e2,ok2,rfl,rfl,_⟩
     simp only[tt,seval,h4,Tok.row,Option.isSome_none]
     refine⟨.tu [([.sl 0 [] none],true),([.v (.int .i64 (q:Nat))],true)],[],rfl,am ?_⟩
     simp only[tt,seval]
    |some y=>
     obtain⟨t,e⟩:=y
     rw[ho] at he co
     simp only at he
     obtain⟨he1,he2,_⟩:=osp t e ho
     refine fV (co) ?_ ?_ ?_
     ·decide
     ·simp only[tt,seval]
     rintro r ⟨t',e2,ok2,rfl,rfl,ht⟩
     simp only[tt,seval,h4,Tok.row]
     obtain⟨rfl,rfl⟩:=ht t e rfl
     refine kU ?_
     refine⟨[(42,.arr 150 (m++[t']).length ((m++[t']).flatMap Tok.row) none)],none,by simp only[List.flatMap_append,aC,List.flatMap_cons,List.flatMap_nil,List.append_nil,Tok.row];exact ak rfl (ao _),aq _,⟨e,n,m++[t'],rfl,by simp,aa,by simp;omega,he,aa,rfl,rfl⟩,aB⟩
end Go.Proofs.YtbodcedhmccenaaGreatDoor
