/-
  The lexers.
  Conditions: none.
-/
import Derived.Test.YteffjmaadkkmeaaGreatDoorRPB
import Derived.Shelf.Strings.Search3
import Derived.Shelf.Strings.Prefix
import Derived.Shelf.Small.Strs
import Derived.Test.YteffjmaadkkmeaaGreatDoorProg
set_option linter.unusedVariables false
set_option linter.unusedSimpArgs false
set_option linter.unusedSectionVars false
set_option maxRecDepth 8000
namespace Go.Proofs.YteffjmaadkkmeaaGreatDoor
open Go Go.Dv
open Go.Vc (D cY d3 cN bk)
theorem hM {s:ByteArray} {l:List UInt8} (hl:l=s.data.toList) (i j:Nat):s.extract i j=b4 l i j:=by
 subst hl
 apply ByteArray.ext
 rw[ByteArray.data_extract]
 unfold b4
 apply Array.ext'
 simp [List.extract_eq_take_drop]
theorem oq {l:List UInt8} {i:Nat} (hi:i<l.length) (h:(ff l[i]||gx l[i])=true):b8 l (i+1)=b8 l i:=by
 rw[jv i,ay hi]
 simp only[h,if_true]
theorem uY {l:List UInt8} {i:Nat} (hi:i<l.length) (h:(ff l[i]||gx l[i])=false):b8 l i=i:=by
 rw[jv i,ay hi]
 simp [h]
theorem rK {l:List UInt8} {i:Nat} (hi:l.length<=i):b8 l i=i:=by
 rw[jv i,List.getElem?_eq_none_iff.2 hi]
theorem xK (s:ByteArray) (i:Nat) (hs:s.size<=1048576) (hi:i<=s.size):Cl Tryz.prog 175 [vs s,vi i] [] fun r _=>r=vi (b8 s.data.toList i:Nat):=by
 obtain⟨l,hl⟩:∃l,l=s.data.toList:=⟨_,rfl⟩
 have hll:l.length=s.size:=by rw[hl];exact aG s
 rw[<-hl]
 refine ae ab false Tryz.func175 rfl (by kernel_rfl) ?_
 simp only[Tryz.f175,tt,seval]
 refine dLoop.intro (fun f' L p=>∃j:Nat,f' 1=vi j/\j<=s.size/\b8 l j=b8 l i/\L=[]/\p=none) (fun f' _ _=>(s.size-aU (f' 1)).toNat) [] none ⟨ak _,al _,?_⟩ ?_
 ·simp only[tt,seval]
  exact⟨i,rfl,hi,rfl⟩
 ·rintro g L p ⟨j,h1,hj,he,rfl,rfl⟩
  simp only[tt,seval] at h1
  simp only[tt,seval,h1,Int.ofNat_lt]
  by_cases hlt:j<s.size
  ·have hil:j<l.length:=by omega
   simp only[tt,seval,h1,hlt]
   rw[bV hl hil]
   simp only[tt,seval]
   refine fun _=>?_
   refine cZ (m6 l[j].toNat) ?_ ?_<;>simp only[tt,seval]
   cases hL:jR l[j].toNat with
   |true=>
    simp only[tt,seval,h1]
    rw[ax (n:=(j:Int)+1) (by omega) (by omega)]
    exact⟨[],none,ak _,al _,⟨j+1,rfl,by omega,by rw[oq hil (by simp [ff,hL]),he],rfl,rfl⟩,by simp only[aU];omega⟩
   |false=>
    simp only[tt,seval,h1]
    rw[bV hl hil]
    simp only[tt,seval]
    refine cZ (jh l[j].toNat) ?_ ?_<;>simp only[tt,seval,h1]
    cases hF:decide ((48:Int)<=(l[j].toNat:Int)/\(l[j].toNat:Int)<=57) with
    |true=>
     have hF:=of_decide_eq_true hF
     rw[ax (n:=(j:Int)+1) (by omega) (by omega)]
     refine aa (fun _=>?_) (fun h=>absurd hF h)
     exact⟨[],none,ak _,al _,⟨j+1,rfl,by omega,by rw[oq hil (by simp only[gx,ap hF,Bool.or_true]),he],rfl,rfl⟩,by simp only[aU];omega⟩
    |false=>
     have hF':=of_decide_eq_false hF
     refine aa (fun h=>absurd h hF') (fun _=>?_)
     refine⟨_,_,gB ?_,ai rfl⟩
     rw[<-he,uY hil (by simp only[ff,gx,hL,hF,Bool.or_false])]
  ·simp only[tt,seval,h1,hlt]
   refine fun _=>⟨_,_,gB ?_,ai rfl⟩
   rw[<-he,rK (by omega)]
def B2:Option (List UInt8×Nat)->S
 |some (x,e)=>.tu [([.v (.string ⟨x.toArray⟩)],true),([.v (.int .i64 (e:Nat))],true)]
 |none=>.tu [([.v (.string ⟨#[]⟩)],true),([.v (.int .i64 (-1))],true)]
theorem qq (s:ByteArray) (a:Nat) (q:UInt8) (hs:s.size<=1048576) (hq:s.data.toList[a]?=some q):Cl Tryz.prog 179 [vs s,vi a] [] fun r _=>r=B2 (dt s.data.toList q (s.data.toList.length+1) (a+1) []):=by
 obtain⟨l,hl⟩:∃l,l=s.data.toList:=⟨_,rfl⟩
 have hll:l.length=s.size:=by rw[hl];exact aG s
 rw[<-hl] at hq ⊢
 obtain⟨ha,hqa⟩:=List.getElem?_eq_some_iff.1 hq
 refine ae ab false Tryz.func179 rfl (by kernel_rfl) ?_
 simp only[Tryz.f179,tt,seval]
 rw[bV hl ha,hqa]
 simp only[tt,seval]
 rw[ax (n:=(a:Int)+1) (by omega) (by omega)]
 refine dLoop.gh [.ren 12 52] ⟨by decide,by decide,?_⟩
 refine dLoop0.introR (fun f' L p=>∃(i n:Nat) (bs:List UInt8),f' 8=vi i/\f' 7 = .c (.s 52 bs.length)/\i<=s.size/\bs.length<=i/\dt l q n i bs=dt l q (l.length+1) (a+1) []/\l.length+1<=n+i/\L=[(52,.arr 5 bs.length (aO bs) none)]/\p=none) (fun f' _ _=>(s.size-aU (f' 8)).toNat) [(52,.arr 5 0 (aO []) none)] none ⟨ac rfl (ak _),al _,?_⟩ ?_
 ·simp only[tt,seval]
  exact⟨a+1,l.length+1,[],rfl,rfl,by omega,by simp,rfl,by omega,rfl⟩
 ·rintro g L p ⟨i,n,bs,h8,h7,hi,hbl,he,hn,rfl,rfl⟩
  simp only[tt,seval] at h8 h7
  simp only[tt,seval,h8,Int.ofNat_lt]
  cases n with
  |zero=>exact absurd hn (by omega)
  |succ n=>
  rw[dt] at he
  refine fun _=>aa (fun hlt=>?_) (fun hge=>?_)
  ·have hil:i<l.length:=by omega
   rw[ay hil] at he
   simp only at he
   rw[bV hl hil]
   simp only[tt,seval,h8,h7]
   refine aa (fun hne=>?_) (fun heq=>?_)
   ·have hc:¬l[i]=q:=fun e=>by rw[e] at hne;simp at hne
    rw[if_neg hc] at he
    rw[bV hl hil]
    simp only[tt,seval,h8]
    refine⟨by kernel_rfl,⟨by simp only[maxLen];omega,by omega⟩,?_⟩
    rw[dA,ax (n:=(i:Int)+1) (by omega) (by omega)]
    refine⟨[.ren 31 52],by decide,by decide,?_⟩
    simp only[tt,seval]
    refine⟨[(52,.arr 5 (bs++[l[i]]).length (aO (bs++[l[i]])) none)],none,ac (by simp [Go.Dv.look]) (ak _),al _,⟨i+1,n,bs++[l[i]],by simp only[tt,seval];rfl,by simp only[tt,seval,aA],by omega,by simp;omega,he,by omega,rfl,rfl⟩,by simp only[tt,seval,aU];omega⟩
   ·have hc:l[i]=q:=UInt8.toNat_inj.1 (by simp at heq;omega)
    rw[if_pos hc] at he
    have ew:IntKind.i64.wrap ((i:Int)+1)=((i+1:Nat):Int):=by rw[ax (by omega) (by omega)];omega
    have ex:bs.length<=9223372036854775807:=by omega
    rw[ew]
    by_cases hi1:i+1<l.length
    ·have g1:decide ((s.size:Int)<=((i+1:Nat):Int))=false:=ao (by omega)
     rw[ay hi1] at he
     simp only[tt,seval,h8,g1,ew]
     refine fun _=>?_
     rw[bV hl hi1]
     simp only[tt,seval,h8,h7]
     refine aa (fun hne=>?_) (fun heq=>?_)
     ·have hd:¬l[i+1]=q:=fun e=>by rw[e] at hne;simp at hne
      rw[if_neg (by simpa using hd)] at he
      refine⟨by kernel_rfl,by simp only[maxLen];omega,bs,rfl,rfl,?_⟩
      simp only[tt,seval,h8,ew]
      rw[<-he]
      exact⟨_,_,rfl,ai rfl⟩
     ·have hd:l[i+1]=q:=UInt8.toNat_inj.1 (by simp at heq;omega)
      rw[if_pos (by rw[hd])] at he
      refine⟨by kernel_rfl,⟨by simp only[maxLen];omega,by omega⟩,?_⟩
      rw[dA,ew,ax (n:=((i+1:Nat):Int)+1) (by omega) (by omega)]
      refine⟨[],?_⟩
      refine⟨[(52,.arr 5 (bs++[q]).length (aO (bs++[q])) none)],none,ac (by simp [Go.Dv.look]) (ak _),al _,⟨i+2,n,bs++[q],by simp only[tt,seval];exact gB (by omega),by simp only[tt,seval,aA],by omega,by simp;omega,he,by omega,rfl,rfl⟩,by simp only[tt,seval,aU];omega⟩
    ·have g1:decide ((s.size:Int)<=((i+1:Nat):Int))=true:=ap (by omega)
     rw[List.getElem?_eq_none_iff.2 (by omega),if_neg (by simp)] at he
     simp only[tt,seval,h8,h7,g1,ew]
     refine fun _=>⟨by kernel_rfl,by simp only[maxLen];omega,bs,rfl,rfl,?_⟩
     simp only[tt,seval,h8,ew]
     rw[<-he]
     exact⟨_,_,rfl,ai rfl⟩
  ·have:i=s.size:=by omega
   subst this
   rw[List.getElem?_eq_none_iff.2 (by omega)] at he
   simp only at he
   rw[<-he]
   exact⟨_,_,rfl,ai rfl⟩
theorem kI (b:UInt8):ud b=true↔((b.toNat:Int)=32∨(b.toNat:Int)=9∨(b.toNat:Int)=10∨(b.toNat:Int)=13):=by
 unfold ud
 simp only[Bool.or_eq_true,beq_iff_eq,<-UInt8.toNat_inj]
 have e1:(32:UInt8).toNat=32:=rfl
 have e2:(9:UInt8).toNat=9:=rfl
 have e3:(10:UInt8).toNat=10:=rfl
 have e4:(13:UInt8).toNat=13:=rfl
 rw[e1,e2,e3,e4]
 omega
theorem yK {l:List UInt8} {i:Nat} {a b:UInt8} (hi:i<=l.length):b4 l i (min l.length (i+2))=⟨#[a,b]⟩↔l[i]?=some a/\l[i+1]?=some b:=by
 have h0:l[i]?=(l.drop i)[0]?:=by simp [List.getElem?_drop]
 have h1:l[i+1]?=(l.drop i)[1]?:=by simp [List.getElem?_drop]
 have ht:(l.drop i).take (min l.length (i+2)-i)=(l.drop i).take 2:=List.take_eq_take_iff.2 (by rw[List.length_drop];omega)
 unfold b4
 rw[ht,h0,h1]
 generalize l.drop i=m
 match m with
 | []=>simp
 | [x]=>simp
 |x::y::r=>simp
theorem xL (a b:Int):Cl Tryz.prog 173 [vi a,vi b] [] fun r _=>r=vi (if a<b then a else b):=by
 refine ae ab false Tryz.func173 rfl (by kernel_rfl) ?_
 simp only[Tryz.f173,tt,seval]
 refine aa (fun h=>?_) (fun h=>?_)
 ·exact⟨_,_,gB (by rw[if_pos h]),ai rfl⟩
 ·exact⟨_,_,gB (by rw[if_neg h]),ai rfl⟩
def DS:Option (Nat×Bool)->Int
 |some (p,true)=>p
 |some (p,false)=>-(p:Int)-1
 |none=>0
set_option maxHeartbeats 2000000 in
theorem B3 (s:ByteArray) (a:Nat) (hs:s.size<=1048576) (ha:a<=s.size):Cl Tryz.prog 118 [vs s,vi a] [] fun r _=>r=vi (DS (fh s.data.toList (s.data.toList.length+1) a)):=by
 obtain⟨l,hl⟩:∃l,l=s.data.toList:=⟨_,rfl⟩
 have hll:l.length=s.size:=by rw[hl];exact aG s
 rw[<-hl]
 refine ae ab false Tryz.func118 rfl (by kernel_rfl) ?_
 simp only[Tryz.f118,tt,seval]
 refine dLoop.intro (fun f' L p=>∃(j n:Nat),f' 1=vi j/\j<=s.size/\fh l n j=fh l (l.length+1) a/\l.length+1<=n+j/\L=[]/\p=none) (fun f' _ _=>(s.size-aU (f' 1)).toNat) [] none ⟨ak _,al _,?_⟩ ?_
 ·simp only[tt,seval]
  exact⟨a,l.length+1,rfl,ha,rfl,by omega⟩
 ·rintro g L p ⟨j,n,h1,hj,he,hn,rfl,rfl⟩
  simp only[tt,seval] at h1
  cases n with
  |zero=>exact absurd hn (by omega)
  |succ n=>
  rw[fh] at he
  simp only[tt,seval,h1,Int.ofNat_lt]
  refine fun _=>aa (fun hlt=>?_) (fun hge=>?_)
  ·have hil:j<l.length:=by omega
   rw[ay hil] at he
   simp only at he
   rw[ax (n:=(j:Int)+2) (by omega) (by omega)]
   have em:(if (s.size:Int)<(j:Int)+2 then (s.size:Int) else (j:Int)+2)=((min l.length (j+2):Nat):Int):=by split<;>omega
   refine fun _=>?_
   refine cZ (xL s.size (j+2)) ?_ ?_<;>simp only[tt,seval]
   rw[em,gw (by kernel_rfl) (show s.size<=9223372036854775807 by omega) (by omega) (by omega) (by omega),Int.toNat_natCast,Int.toNat_natCast,hM hl]
   simp only[tt,seval,h1]
   cases h32:decide ((l[j].toNat:Int)=32) with
   |true=>
    rw[bV hl hil]
    simp only[tt,seval,h1,h32]
    rw[ax (n:=(j:Int)+1) (by omega) (by omega)]
    rw[if_pos ((kI _).2 (by have:=of_decide_eq_true h32;omega))] at he
    exact⟨[],none,ak _,al _,⟨j+1,n,rfl,by omega,he,by omega,rfl,rfl⟩,by simp only[aU];omega⟩
   |false=>
    rw[bV hl hil]
    simp only[tt,seval,h1,h32]
    cases h9:decide ((l[j].toNat:Int)=9) with
    |true=>
     rw[bV hl hil]
     simp only[tt,seval,h1,h9]
     rw[ax (n:=(j:Int)+1) (by omega) (by omega)]
     rw[if_pos ((kI _).2 (by have:=of_decide_eq_true h9;omega))] at he
     exact⟨[],none,ak _,al _,⟨j+1,n,rfl,by omega,he,by omega,rfl,rfl⟩,by simp only[aU];omega⟩
    |false=>
     rw[bV hl hil]
     simp only[tt,seval,h1,h9]
     cases h10:decide ((l[j].toNat:Int)=10) with
     |true=>
      rw[bV hl hil]
      simp only[tt,seval,h1,h10]
      rw[ax (n:=(j:Int)+1) (by omega) (by omega)]
      rw[if_pos ((kI _).2 (by have:=of_decide_eq_true h10;omega))] at he
      exact⟨[],none,ak _,al _,⟨j+1,n,rfl,by omega,he,by omega,rfl,rfl⟩,by simp only[aU];omega⟩
     |false=>
      rw[bV hl hil]
      simp only[tt,seval,h1,h10]
      cases h13:decide ((l[j].toNat:Int)=13) with
      |true=>
       rw[bV hl hil]
       simp only[tt,seval,h1,h13]
       rw[ax (n:=(j:Int)+1) (by omega) (by omega)]
       rw[if_pos ((kI _).2 (by have:=of_decide_eq_true h13;omega))] at he
       exact⟨[],none,ak _,al _,⟨j+1,n,rfl,by omega,he,by omega,rfl,rfl⟩,by simp only[aU];omega⟩
      |false=>
       rw[bV hl hil]
       simp only[tt,seval,h1,h13]
       have hw:¬ud l[j]=true:=fun h=>by
        have e1:=of_decide_eq_false h32
        have e2:=of_decide_eq_false h9
        have e3:=of_decide_eq_false h10
        have e4:=of_decide_eq_false h13
        have:=(kI _).1 h
        omega
       rw[if_neg hw] at he
       by_cases hd:l[j]=45/\l[j+1]?=some 45
       ·have e2:(b4 l j (min l.length (j+2))=⟨#[45,45]⟩)=True:=eq_true ((yK (by omega)).2 ⟨by rw[ay hil,hd.1],hd.2⟩)
        rw[if_pos hd] at he
        have hne:¬l[j]=10:=by rw[hd.1];decide
        have eol:=eS (B:=l) j
        rw[ay hil] at eol
        simp only[hne,if_false] at eol
        have gol:=mO (B:=l) (j+1)
        simp only[tt,seval,e2]
        refine dLoop.intro (fun f' L p=>∃k:Nat,f' 1=vi k/\k<=s.size/\d5 l k=d5 l j/\L=[]/\p=none) (fun f' _ _=>(s.size-aU (f' 1)).toNat) [] none ⟨ak _,al _,?_⟩ ?_
        ·simp only[tt,seval,h1]
         exact⟨j,rfl,hj,rfl⟩
        ·rintro g2 L p ⟨k,h1',hk,hke,rfl,rfl⟩
         simp only[tt,seval] at h1'
         simp only[tt,seval,h1',Int.ofNat_lt]
         have st:=eS (B:=l) k
         by_cases hkl:k<s.size
         ·have hkl':k<l.length:=by omega
          rw[ay hkl'] at st
          simp only at st
          simp only[tt,seval,h1',hkl]
          rw[bV hl hkl']
          simp only[tt,seval,h1']
          refine fun _=>aa (fun h=>?_) (fun h=>?_)
          ·have hb:¬l[k]=10:=fun e=>by rw[e] at h;simp at h
           rw[if_neg hb] at st
           rw[ax (n:=(k:Int)+1) (by omega) (by omega)]
           exact⟨[],none,ak _,al _,⟨k+1,rfl,by omega,by rw[<-st,hke],rfl,rfl⟩,by simp only[aU];omega⟩
          ·have hb:l[k]=10:=UInt8.toNat_inj.1 (by simp at h;show l[k].toNat=10;omega)
           rw[if_pos hb] at st
           exact⟨[],none,ak _,al _,⟨k,n,rfl,by omega,by rw[<-st,hke];exact he,by omega,rfl,rfl⟩,by simp only[aU];omega⟩
         ·simp only[tt,seval,h1',hkl]
          rw[List.getElem?_eq_none_iff.2 (by omega)] at st
          simp only at st
          refine fun _=>?_
          exact⟨[],none,ak _,al _,⟨k,n,rfl,by omega,by rw[<-st,hke];exact he,by omega,rfl,rfl⟩,by simp only[aU];omega⟩
       ·have e2:(b4 l j (min l.length (j+2))=⟨#[45,45]⟩)=False:=eq_false fun h=>hd (by
         have:=(yK (by omega)).1 h
         rw[ay hil] at this
         exact⟨Option.some.inj this.1,this.2⟩)
        rw[if_neg hd] at he
        simp only[tt,seval,e2]
        by_cases hc:l[j]=47/\l[j+1]?=some 42
        ·have e3:(b4 l j (min l.length (j+2))=⟨#[47,42]⟩)=True:=eq_true ((yK (by omega)).2 ⟨by rw[ay hil,hc.1],hc.2⟩)
         rw[if_pos hc] at he
         have hj2:j+1<l.length:=(List.getElem?_eq_some_iff.1 hc.2).1
         simp only[tt,seval,e3]
         rw[ax (n:=(j:Int)+2) (by omega) (by omega)]
         refine dLoop.intro (fun f' L p=>∃(k m:Nat),f' 6=vi k/\j+2<=k/\k<=s.size/\lO l m k=lO l (l.length+1) (j+2)/\l.length+1<=m+k/\L=[]/\p=none) (fun f' _ _=>(s.size-aU (f' 6)).toNat) [] none ⟨ak _,al _,?_⟩ ?_
         ·simp only[tt,seval]
          exact⟨j+2,l.length+1,rfl,by omega,by omega,rfl,by omega⟩
         ·rintro g2 L p ⟨k,m,h6,hjk,hk,hke,hm,rfl,rfl⟩
          simp only[tt,seval] at h6
          cases m with
          |zero=>exact absurd hm (by omega)
          |succ m=>
          rw[lO] at hke
          simp only[tt,seval,h6,Int.ofNat_lt]
          refine fun _=>?_
          by_cases hkl:k<s.size
          ·have hkl':k<l.length:=by omega
           simp only[tt,seval,h6,hkl]
           refine fun _=>?_
           rw[ax (n:=(k:Int)+2) (by omega) (by omega)]
           have em:(if (s.size:Int)<(k:Int)+2 then (s.size:Int) else (k:Int)+2)=((min l.length (k+2):Nat):Int):=by split<;>omega
           refine cZ (xL s.size (k+2)) ?_ ?_<;>simp only[tt,seval]
           rw[em,gw (by kernel_rfl) (show s.size<=9223372036854775807 by omega) (by omega) (by omega) (by omega),Int.toNat_natCast,Int.toNat_natCast,hM hl]
           simp only[tt,seval,h6]
           by_cases hq:l[k]?=some 42/\l[k+1]?=some 47
           ·have e4:decide (b4 l k (min l.length (k+2))=⟨#[42,47]⟩)=true:=ap ((yK (by omega)).2 hq)
            rw[if_pos hq] at hke
            rw[<-hke] at he
            simp only at he
            have hk2:k+1<l.length:=(List.getElem?_eq_some_iff.1 hq.2).1
            have g1:decide ((s.size:Int)<=(k:Int))=false:=ao (by omega)
            have g1':((s.size:Int)<=(k:Int))=False:=eq_false (by omega)
            simp only[tt,seval,e4,g1']
            refine fun _=>?_
            rw[ax (n:=(k:Int)+2) (by omega) (by omega)]
            exact⟨[],none,ak _,al _,⟨k+2,n,rfl,by omega,he,by omega,rfl,rfl⟩,by simp only[aU];omega⟩
           ·have e4:decide (b4 l k (min l.length (k+2))=⟨#[42,47]⟩)=false:=ao fun h=>hq ((yK (by omega)).1 h)
            rw[if_neg hq,if_pos hkl'] at hke
            simp only[tt,seval,e4]
            rw[ax (n:=(k:Int)+1) (by omega) (by omega)]
            exact⟨[],none,ak _,al _,⟨k+1,m,rfl,by omega,by omega,hke,by omega,rfl,rfl⟩,by simp only[aU];omega⟩
          ·have hks:k=s.size:=by omega
           have hn1:l[k]?=none:=List.getElem?_eq_none_iff.2 (by omega)
           rw[hn1,if_neg (by simp),if_neg (by omega)] at hke
           rw[<-hke] at he
           simp only at he
           rw[<-he]
           have g1:decide ((s.size:Int)<=(k:Int))=true:=ap (by omega)
           have g1':((s.size:Int)<=(k:Int))=True:=eq_true (by omega)
           simp only[tt,seval,h1,h6,hkl,g1']
           refine fun _=>⟨_,_,gB ?_,ai rfl⟩
           rw[ax (n:=-(j:Int)) (by omega) (by omega),ax (by omega) (by omega)]
           rfl
        ·have e3:(b4 l j (min l.length (j+2))=⟨#[47,42]⟩)=False:=eq_false fun h=>hc (by
          have:=(yK (by omega)).1 h
          rw[ay hil] at this
          exact⟨Option.some.inj this.1,this.2⟩)
         rw[if_neg hc] at he
         simp only[tt,seval,e3]
         rw[<-he]
         exact⟨_,_,rfl,ai rfl⟩
  ·have:j=s.size:=by omega
   subst this
   rw[List.getElem?_eq_none_iff.2 (by omega)] at he
   simp only at he
   rw[<-he]
   exact⟨_,_,rfl,ai rfl⟩
theorem hO (l:List UInt8) (i j:Nat):(b4 l i j).size=min (j-i) (l.length-i):=by
 unfold b4
 show ((l.drop i).take (j-i)).toArray.size=_
 simp
def DT:Option (Tok×Nat)->Int
 |some (_,e)=>e
 |none=>-1
theorem d7 {l:List UInt8} {a:Nat} {b:UInt8} {t:Tok} {e:Nat} (hr:cC l a b=some (t,e)) (ho:aW t=true):bg l a b=some (t,e):=by
 unfold bg
 rw[hr]
 simp only[ho,if_true]
theorem dT {l:List UInt8} {a:Nat} {b:UInt8} {t:Tok} {e:Nat} (hr:cC l a b=some (t,e)) (ho:aW t=false):bg l a b=none:=by
 unfold bg
 rw[hr]
 simp only[ho,Bool.false_eq_true,if_false]
theorem sY (l:List UInt8) (a:Nat):cC l a 34=(dt l 34 (l.length+1) (a+1) []).map fun x=>(⟨2,⟨x.1.toArray⟩,a⟩,x.2):=by
 unfold cC
 simp only
 rw[if_neg (by decide),if_neg (by decide),if_pos trivial]
theorem sZ (l:List UInt8) (a:Nat):cC l a 39=(dt l 39 (l.length+1) (a+1) []).map fun x=>(⟨4,⟨x.1.toArray⟩,a⟩,x.2):=by
 unfold cC
 simp only
 rw[if_neg (by decide),if_neg (by decide),if_neg (by decide),if_pos trivial]
set_option maxHeartbeats 4000000 in
theorem CF (s:ByteArray) (a:Nat) (b:UInt8) (hs:s.size<=1048576) (hb:s.data.toList[a]?=some b):Cl Tryz.prog 119 [vs s,vi a] [] fun r _=>∃t:Tok,r = .tu [(av t.row,false),([.v (.int .i64 (DT (bg s.data.toList a b)))],true)]/\∀t' e,bg s.data.toList a b=some (t',e)->t=t':=by
 obtain⟨l,hl⟩:∃l,l=s.data.toList:=⟨_,rfl⟩
 have hll:l.length=s.size:=by rw[hl];exact aG s
 rw[<-hl] at hb ⊢
 obtain⟨ha,hba⟩:=List.getElem?_eq_some_iff.1 hb
 refine ae ab false Tryz.func119 rfl (by kernel_rfl) ?_
 simp only[Tryz.f119,tt,seval]
 rw[ax (n:=(a:Int)+1) (by omega) (by omega),bV hl ha,hba]
 simp only[tt,seval]
 refine cZ (m6 b.toNat) ?_ ?_<;>simp only[tt,seval]
 cases hL:jR b.toNat with
 |true=>
  simp only[tt,seval]
  have hrl:=mP (B:=l) a
  have hrh:=mQ (B:=l) (i:=a) (by omega)
  have crun:=xK s a hs (by omega)
  rw[<-hl] at crun
  refine cZ (crun) ?_ ?_<;>simp only[tt,seval]
  rw[gw (by kernel_rfl) (show s.size<=9223372036854775807 by omega) (by omega) (by omega) (by omega),Int.toNat_natCast,Int.toNat_natCast,hM hl]
  simp only[tt,seval]
  have hsz:(b4 l a (b8 l a)).size<=1048576:=by rw[hO];omega
  generalize hx:b4 l a (b8 l a)=x at *
  refine cZ (so x hsz) ?_ ?_<;>simp only[tt,seval]
  have hk:=pC x
  have hraw:cC l a b=some (if l4 x=0 then ⟨2,x,a⟩ else ⟨1,bL x,a⟩,b8 l a):=by
   unfold cC
   simp only[ff,hL,if_true,hx]
  refine aa (fun hg=>?_) (fun hg=>?_)
  ·rw[if_neg (by omega)] at hraw
   refine cZ (vH x hsz) ?_ ?_<;>simp only[tt,seval]
   have hno:decide (((b8 l a:Nat):Int)<0)=false:=ao (by omega)
   simp only[tt,seval,hno]
   refine cZ (cL (Tok.mk 1 (bL x) a) (by show (bL x).size<=_;rw[jj];exact hsz)) ?_ ?_<;>simp only[tt,seval,Tok.row]
   cases ho:aW (Tok.mk 1 (bL x) a) with
   |true=>
    have e1:bg l a b=some ((Tok.mk 1 (bL x) a),b8 l a):=d7 hraw ho
    rw[e1]
    simp only[tt,seval]
    refine⟨.tu [(av (Tok.mk 1 (bL x) a).row,false),([.v (.int .i64 ((b8 l a:Nat):Int))],true)],[],⟨(Tok.mk 1 (bL x) a),rfl,fun t' e' h=>by cases h;rfl⟩,am ?_⟩
    simp only[tt,seval,Tok.row]
   |false=>
    have e1:bg l a b=none:=dT hraw ho
    rw[e1]
    simp only[tt,seval]
    refine⟨.tu [(av (Tok.mk 1 (bL x) a).row,false),([.v (.int .i64 (-1))],true)],[],⟨(Tok.mk 1 (bL x) a),by first|exact⟨rfl,fun t' e' h=>by cases h⟩|rfl⟩,am ?_⟩
    simp only[tt,seval,Tok.row]
  ·rw[if_pos (by omega)] at hraw
   have hno:decide (((b8 l a:Nat):Int)<0)=false:=ao (by omega)
   simp only[tt,seval,hno]
   refine cZ (cL (Tok.mk 2 x a) hsz) ?_ ?_<;>simp only[tt,seval,Tok.row]
   cases ho:aW (Tok.mk 2 x a) with
   |true=>
    have e1:bg l a b=some ((Tok.mk 2 x a),b8 l a):=d7 hraw ho
    rw[e1]
    simp only[tt,seval]
    refine⟨.tu [(av (Tok.mk 2 x a).row,false),([.v (.int .i64 ((b8 l a:Nat):Int))],true)],[],⟨(Tok.mk 2 x a),rfl,fun t' e' h=>by cases h;rfl⟩,am ?_⟩
    simp only[tt,seval,Tok.row]
   |false=>
    have e1:bg l a b=none:=dT hraw ho
    rw[e1]
    simp only[tt,seval]
    refine⟨.tu [(av (Tok.mk 2 x a).row,false),([.v (.int .i64 (-1))],true)],[],⟨(Tok.mk 2 x a),by first|exact⟨rfl,fun t' e' h=>by cases h⟩|rfl⟩,am ?_⟩
    simp only[tt,seval,Tok.row]
 |false=>
  simp only[tt,seval]
  rw[bV hl ha,hba]
  simp only[tt,seval]
  refine cZ (jh b.toNat) ?_ ?_<;>simp only[tt,seval]
  cases hF:decide ((48:Int)<=(b.toNat:Int)/\(b.toNat:Int)<=57) with
  |true=>
   have eF:((48:Int)<=(b.toNat:Int)/\(b.toNat:Int)<=57)=True:=eq_true (of_decide_eq_true hF)
   simp only[tt,seval,eF]
   have hrl:=mP (B:=l) a
   have hrh:=mQ (B:=l) (i:=a) (by omega)
   have crun:=xK s a hs (by omega)
   rw[<-hl] at crun
   refine cZ (crun) ?_ ?_<;>simp only[tt,seval]
   rw[gw (by kernel_rfl) (show s.size<=9223372036854775807 by omega) (by omega) (by omega) (by omega),Int.toNat_natCast,Int.toNat_natCast,hM hl]
   simp only[tt,seval]
   have hsz:(b4 l a (b8 l a)).size<=1048576:=by rw[hO];omega
   generalize hx:b4 l a (b8 l a)=x at *
   have hraw:cC l a b=some (⟨3,x,a⟩,b8 l a):=by
    unfold cC
    simp only[ff,gx,hL,hF,if_true,Bool.false_eq_true,if_false,hx]
   have hno:decide (((b8 l a:Nat):Int)<0)=false:=ao (by omega)
   simp only[tt,seval,hno]
   refine cZ (cL (Tok.mk 3 x a) hsz) ?_ ?_<;>simp only[tt,seval,Tok.row]
   cases ho:aW (Tok.mk 3 x a) with
   |true=>
    have e1:bg l a b=some ((Tok.mk 3 x a),b8 l a):=d7 hraw ho
    rw[e1]
    simp only[tt,seval]
    refine⟨.tu [(av (Tok.mk 3 x a).row,false),([.v (.int .i64 ((b8 l a:Nat):Int))],true)],[],⟨(Tok.mk 3 x a),rfl,fun t' e' h=>by cases h;rfl⟩,am ?_⟩
    simp only[tt,seval,Tok.row]
   |false=>
    have e1:bg l a b=none:=dT hraw ho
    rw[e1]
    simp only[tt,seval]
    refine⟨.tu [(av (Tok.mk 3 x a).row,false),([.v (.int .i64 (-1))],true)],[],⟨(Tok.mk 3 x a),by first|exact⟨rfl,fun t' e' h=>by cases h⟩|rfl⟩,am ?_⟩
    simp only[tt,seval,Tok.row]
  |false=>
   have eF:((48:Int)<=(b.toNat:Int)/\(b.toNat:Int)<=57)=False:=eq_false (of_decide_eq_false hF)
   simp only[tt,seval,eF]
   rw[bV hl ha,hba]
   simp only[tt,seval]
   by_cases hb34:b=34
   ·have e34:((b.toNat:Int)=34)=True:=eq_true (by rw[hb34];rfl)
    simp only[tt,seval,e34]
    have cq:=qq s a b hs (by rw[<-hl];exact hb)
    rw[<-hl] at cq
    refine cZ (cq) ?_ ?_<;>simp only[tt,seval]
    have hqs:=fun x e=>dB (B:=l) (q:=b) (n:=l.length+1) (i:=a+1) (l:=[]) (x:=x) (e:=e)
    cases hq:dt l b (l.length+1) (a+1) [] with
    |none=>
     have hr:cC l a b=none:=by rw[hb34] at hq ⊢;rw[sY,hq];rfl
     have e1:bg l a b=none:=by unfold bg;rw[hr]
     rw[e1]
     simp only[tt,seval,B2]
     refine⟨.tu [(av (Tok.mk 2 ⟨#[]⟩ a).row,false),([.v (.int .i64 (-1))],true)],[],⟨Tok.mk 2 ⟨#[]⟩ a,by first|exact⟨rfl,fun t' e' h=>by cases h⟩|rfl⟩,am ?_⟩
     simp only[tt,seval,Tok.row]
    |some y=>
     obtain⟨x,e⟩:=y
     have hr:cC l a b=some (⟨2,⟨x.toArray⟩,a⟩,e):=by rw[hb34] at hq ⊢;rw[sY,hq];rfl
     have hqs:=hqs x e hq
     simp only[tt,seval,B2]
     have hno:decide (((e:Nat):Int)<0)=false:=ao (by omega)
     simp only[tt,seval,hno]
     refine cZ (cL (Tok.mk 2 ⟨x.toArray⟩ a) (by show x.length<=_;simp only[List.length_nil] at hqs;omega)) ?_ ?_<;>simp only[tt,seval,Tok.row]
     cases ho:aW (Tok.mk 2 ⟨x.toArray⟩ a) with
     |true=>
      have e1:bg l a b=some ((Tok.mk 2 ⟨x.toArray⟩ a),e):=d7 hr ho
      rw[e1]
      simp only[tt,seval]
      refine⟨.tu [(av (Tok.mk 2 ⟨x.toArray⟩ a).row,false),([.v (.int .i64 ((e:Nat):Int))],true)],[],⟨(Tok.mk 2 ⟨x.toArray⟩ a),rfl,fun t' e' h=>by cases h;rfl⟩,am ?_⟩
      simp only[tt,seval,Tok.row]
     |false=>
      have e1:bg l a b=none:=dT hr ho
      rw[e1]
      simp only[tt,seval]
      refine⟨.tu [(av (Tok.mk 2 ⟨x.toArray⟩ a).row,false),([.v (.int .i64 (-1))],true)],[],⟨(Tok.mk 2 ⟨x.toArray⟩ a),by first|exact⟨rfl,fun t' e' h=>by cases h⟩|rfl⟩,am ?_⟩
      simp only[tt,seval,Tok.row]
   ·have h34:¬b=34:=hb34
    have e34:((b.toNat:Int)=34)=False:=eq_false fun h=>hb34 (UInt8.toNat_inj.1 (by show b.toNat=34;omega))
    simp only[tt,seval,e34]
    rw[bV hl ha,hba]
    simp only[tt,seval]
    by_cases hb39:b=39
    ·have e39:((b.toNat:Int)=39)=True:=eq_true (by rw[hb39];rfl)
     simp only[tt,seval,e39]
     have cq:=qq s a b hs (by rw[<-hl];exact hb)
     rw[<-hl] at cq
     refine cZ (cq) ?_ ?_<;>simp only[tt,seval]
     have hqs:=fun x e=>dB (B:=l) (q:=b) (n:=l.length+1) (i:=a+1) (l:=[]) (x:=x) (e:=e)
     cases hq:dt l b (l.length+1) (a+1) [] with
     |none=>
      have hr:cC l a b=none:=by rw[hb39] at hq ⊢;rw[sZ,hq];rfl
      have e1:bg l a b=none:=by unfold bg;rw[hr]
      rw[e1]
      simp only[tt,seval,B2]
      refine⟨.tu [(av (Tok.mk 4 ⟨#[]⟩ a).row,false),([.v (.int .i64 (-1))],true)],[],⟨Tok.mk 4 ⟨#[]⟩ a,by first|exact⟨rfl,fun t' e' h=>by cases h⟩|rfl⟩,am ?_⟩
      simp only[tt,seval,Tok.row]
     |some y=>
      obtain⟨x,e⟩:=y
      have hr:cC l a b=some (⟨4,⟨x.toArray⟩,a⟩,e):=by rw[hb39] at hq ⊢;rw[sZ,hq];rfl
      have hqs:=hqs x e hq
      simp only[tt,seval,B2]
      have hno:decide (((e:Nat):Int)<0)=false:=ao (by omega)
      simp only[tt,seval,hno]
      refine cZ (cL (Tok.mk 4 ⟨x.toArray⟩ a) (by show x.length<=_;simp only[List.length_nil] at hqs;omega)) ?_ ?_<;>simp only[tt,seval,Tok.row]
      cases ho:aW (Tok.mk 4 ⟨x.toArray⟩ a) with
      |true=>
       have e1:bg l a b=some ((Tok.mk 4 ⟨x.toArray⟩ a),e):=d7 hr ho
       rw[e1]
       simp only[tt,seval]
       refine⟨.tu [(av (Tok.mk 4 ⟨x.toArray⟩ a).row,false),([.v (.int .i64 ((e:Nat):Int))],true)],[],⟨(Tok.mk 4 ⟨x.toArray⟩ a),rfl,fun t' e' h=>by cases h;rfl⟩,am ?_⟩
       simp only[tt,seval,Tok.row]
      |false=>
       have e1:bg l a b=none:=dT hr ho
       rw[e1]
       simp only[tt,seval]
       refine⟨.tu [(av (Tok.mk 4 ⟨x.toArray⟩ a).row,false),([.v (.int .i64 (-1))],true)],[],⟨(Tok.mk 4 ⟨x.toArray⟩ a),by first|exact⟨rfl,fun t' e' h=>by cases h⟩|rfl⟩,am ?_⟩
       simp only[tt,seval,Tok.row]
    ·have e39:((b.toNat:Int)=39)=False:=eq_false fun h=>hb39 (UInt8.toNat_inj.1 (by show b.toNat=39;omega))
     simp only[tt,seval,e39]
     have hraw:cC l a b=some (⟨5,b4 l a (de l a),a⟩,de l a):=by
      unfold cC
      simp only[ff,gx,hL,hF,hb34,hb39,Bool.false_eq_true,if_false]
     have hsg:=rn ha
     have e2:IntKind.i64.wrap ((a:Int)+2)=((a+2:Nat):Int):=by rw[ax (by omega) (by omega)];omega
     have e1':(a:Int)+1=((a+1:Nat):Int):=by omega
     rw[e2]
     refine fun _=>?_
     by_cases h2:a+2<=s.size
     ·have g2:decide (((a+2:Nat):Int)<=(s.size:Int))=true:=ap (by omega)
      simp only[tt,seval,g2,e2]
      rw[gw (by kernel_rfl) (show s.size<=9223372036854775807 by omega) (by omega) (by omega) (by omega),Int.toNat_natCast,Int.toNat_natCast,hM hl]
      simp only[tt,seval]
      refine cZ (tY (b4 l a (a+2))) ?_ ?_<;>simp only[tt,seval,e2]
      cases hs2:eU (b4 l a (a+2)) with
      |true=>
       have hsn:de l a=a+2:=by unfold de;rw[if_pos ⟨by omega,hs2⟩]
       simp only[tt,seval]
       rw[hsn] at hraw hsg
       rw[gw (by kernel_rfl) (show s.size<=9223372036854775807 by omega) (by omega) (by omega) (by omega),Int.toNat_natCast,Int.toNat_natCast,hM hl]
       simp only[tt,seval]
       have hsz:(b4 l a (a+2)).size<=1048576:=by rw[hO];omega
       have hno:decide ((((a+2):Nat):Int)<0)=false:=ao (by omega)
       simp only[tt,seval,hno]
       refine cZ (cL (Tok.mk 5 (b4 l a (a+2)) a) hsz) ?_ ?_<;>simp only[tt,seval,Tok.row]
       cases ho:aW (Tok.mk 5 (b4 l a (a+2)) a) with
       |true=>
        have e1:bg l a b=some ((Tok.mk 5 (b4 l a (a+2)) a),(a+2)):=d7 hraw ho
        rw[e1]
        simp only[tt,seval]
        refine⟨.tu [(av (Tok.mk 5 (b4 l a (a+2)) a).row,false),([.v (.int .i64 (((a+2):Nat):Int))],true)],[],⟨(Tok.mk 5 (b4 l a (a+2)) a),rfl,fun t' e' h=>by cases h;rfl⟩,am ?_⟩
        simp only[tt,seval,Tok.row]
       |false=>
        have e1:bg l a b=none:=dT hraw ho
        rw[e1]
        simp only[tt,seval]
        refine⟨.tu [(av (Tok.mk 5 (b4 l a (a+2)) a).row,false),([.v (.int .i64 (-1))],true)],[],⟨(Tok.mk 5 (b4 l a (a+2)) a),by first|exact⟨rfl,fun t' e' h=>by cases h⟩|rfl⟩,am ?_⟩
        simp only[tt,seval,Tok.row]
      |false=>
       have hsn:de l a=a+1:=by unfold de;rw[if_neg (by rw[hs2];simp)]
       simp only[tt,seval]
       rw[e1']
       rw[hsn] at hraw hsg
       rw[gw (by kernel_rfl) (show s.size<=9223372036854775807 by omega) (by omega) (by omega) (by omega),Int.toNat_natCast,Int.toNat_natCast,hM hl]
       simp only[tt,seval]
       have hsz:(b4 l a (a+1)).size<=1048576:=by rw[hO];omega
       have hno:decide ((((a+1):Nat):Int)<0)=false:=ao (by omega)
       simp only[tt,seval,hno]
       refine cZ (cL (Tok.mk 5 (b4 l a (a+1)) a) hsz) ?_ ?_<;>simp only[tt,seval,Tok.row]
       cases ho:aW (Tok.mk 5 (b4 l a (a+1)) a) with
       |true=>
        have e1:bg l a b=some ((Tok.mk 5 (b4 l a (a+1)) a),(a+1)):=d7 hraw ho
        rw[e1]
        simp only[tt,seval]
        refine⟨.tu [(av (Tok.mk 5 (b4 l a (a+1)) a).row,false),([.v (.int .i64 (((a+1):Nat):Int))],true)],[],⟨(Tok.mk 5 (b4 l a (a+1)) a),rfl,fun t' e' h=>by cases h;rfl⟩,am ?_⟩
        simp only[tt,seval,Tok.row]
       |false=>
        have e1:bg l a b=none:=dT hraw ho
        rw[e1]
        simp only[tt,seval]
        refine⟨.tu [(av (Tok.mk 5 (b4 l a (a+1)) a).row,false),([.v (.int .i64 (-1))],true)],[],⟨(Tok.mk 5 (b4 l a (a+1)) a),by first|exact⟨rfl,fun t' e' h=>by cases h⟩|rfl⟩,am ?_⟩
        simp only[tt,seval,Tok.row]
     ·have g2:decide (((a+2:Nat):Int)<=(s.size:Int))=false:=ao (by omega)
      have hsn:de l a=a+1:=by unfold de;rw[if_neg (by omega)]
      simp only[tt,seval,g2,e2]
      rw[e1']
      rw[hsn] at hraw hsg
      rw[gw (by kernel_rfl) (show s.size<=9223372036854775807 by omega) (by omega) (by omega) (by omega),Int.toNat_natCast,Int.toNat_natCast,hM hl]
      simp only[tt,seval]
      have hsz:(b4 l a (a+1)).size<=1048576:=by rw[hO];omega
      have hno:decide ((((a+1):Nat):Int)<0)=false:=ao (by omega)
      simp only[tt,seval,hno]
      refine cZ (cL (Tok.mk 5 (b4 l a (a+1)) a) hsz) ?_ ?_<;>simp only[tt,seval,Tok.row]
      cases ho:aW (Tok.mk 5 (b4 l a (a+1)) a) with
      |true=>
       have e1:bg l a b=some ((Tok.mk 5 (b4 l a (a+1)) a),(a+1)):=d7 hraw ho
       rw[e1]
       simp only[tt,seval]
       refine⟨.tu [(av (Tok.mk 5 (b4 l a (a+1)) a).row,false),([.v (.int .i64 (((a+1):Nat):Int))],true)],[],⟨(Tok.mk 5 (b4 l a (a+1)) a),rfl,fun t' e' h=>by cases h;rfl⟩,am ?_⟩
       simp only[tt,seval,Tok.row]
      |false=>
       have e1:bg l a b=none:=dT hraw ho
       rw[e1]
       simp only[tt,seval]
       refine⟨.tu [(av (Tok.mk 5 (b4 l a (a+1)) a).row,false),([.v (.int .i64 (-1))],true)],[],⟨(Tok.mk 5 (b4 l a (a+1)) a),by first|exact⟨rfl,fun t' e' h=>by cases h⟩|rfl⟩,am ?_⟩
       simp only[tt,seval,Tok.row]
def qX:List Tok ⊕ Nat->List Tok×Int
 |.inl m=>(m,-1)
 |.inr p=>([],p)
set_option maxHeartbeats 4000000 in
theorem EB (s:ByteArray) (hs:s.size<=1048576):Cl Tryz.prog 72 [vs s] [] fun r _=>r = .tu [([.sl (qX (iE s)).1.length ((qX (iE s)).1.flatMap Tok.row) none],true),([.v (.int .i64 (qX (iE s)).2)],true)]:=by
 obtain⟨l,hl⟩:∃l,l=s.data.toList:=⟨_,rfl⟩
 have hll:l.length=s.size:=by rw[hl];exact aG s
 obtain⟨rr,hrr⟩:=pf (B:=l) (l.length+1) 0 [] (by omega) (by omega)
 refine ae ab false Tryz.func72 rfl (by kernel_rfl) ?_
 simp only[Tryz.f72,tt,seval]
 refine fun _=>aa (fun hg=>?_) (fun hg=>?_)
 ·have e:iE s = .inr 2000:=by unfold iE;rw[if_pos (by omega)]
  rw[e]
  refine⟨.tu [([.sl 0 [] none],true),([.v (.int .i64 2000)],true)],[],rfl,am ?_⟩
  simp only[tt,seval]
 have e:iE s=rr:=by unfold iE;rw[if_neg (by omega),<-hl,hrr];rfl
 rw[e]
 refine dLoop.gh [.ren 8 40] ⟨by decide,by decide,?_⟩
 refine dLoop0.intro (fun f' L p=>∃(i n:Nat) (m:List Tok),f' 5=vi i/\f' 4 = .c (.s 40 m.length)/\i<=s.size/\m.length<=i/\qO l n i m=some rr/\l.length+1<=n+i/\L=[(40,.arr 76 m.length (m.flatMap Tok.row) none)]/\p=none) (fun f' _ _=>(s.size-aU (f' 5)).toNat) [(40,.arr 76 0 [] none)] none ⟨ac rfl (ak _),al _,?_⟩ ?_
 ·simp only[tt,seval]
  exact⟨0,l.length+1,[],rfl,rfl,by omega,by simp,hrr,by omega,rfl⟩
 ·rintro g L p ⟨i,n,m,h5,h4,hi,hml,he,hn,rfl,rfl⟩
  simp only[tt,seval] at h5 h4
  cases n with
  |zero=>exact absurd hn (by omega)
  |succ n=>
  rw[qO] at he
  obtain⟨q,okb,hp,hiq,hqs⟩:=eV (B:=l) (l.length+1) i (by omega) (by omega)
  rw[hp] at he
  simp only at he
  have cp:=B3 s i hs hi
  rw[<-hl,hp] at cp
  simp only[tt,seval,h5]
  refine cZ (cp) ?_ ?_<;>simp only[tt,seval,h4]
  cases okb with
  |false=>
   rw[if_pos rfl] at he
   injection he with he;subst he
   have hneg:decide ((-(q:Int)-1)<0)=true:=ap (by omega)
   have hneg':((-(q:Int)-1)<0)=True:=eq_true (by omega)
   simp only[tt,seval,DS,hneg']
   rw[ax (n:=-(-(q:Int)-1)) (by omega) (by omega),ax (by omega) (by omega)]
   refine⟨.tu [([.sl 0 [] none],true),([.v (.int .i64 (q:Nat))],true)],[],rfl,am ?_⟩
   simp only[tt,seval]
   omega
  |true=>
   rw[if_neg (by simp)] at he
   have hneg':((q:Int)<0)=False:=eq_false (by omega)
   simp only[tt,seval,DS,hneg']
   refine fun _=>?_
   by_cases hqe:s.size<=q
   ·have hq1:((s.size:Int)<=(q:Int))=True:=eq_true (by omega)
    rw[List.getElem?_eq_none_iff.2 (by omega)] at he
    simp only at he
    injection he with he;subst he
    simp only[tt,seval,hq1]
    trace_state
    refine⟨.tu [([.sl m.length (m.flatMap Tok.row) none],true),([.v (.int .i64 (-1))],true)],[],rfl,am ?_⟩
    simp only[tt,seval]
   ·have hq1:((s.size:Int)<=(q:Int))=False:=eq_false (by omega)
    have hql:q<l.length:=by omega
    have hb:l[q]?=some l[q]:=ay hql
    rw[hb] at he
    simp only at he
    have co:=CF s q l[q] hs (by rw[<-hl];exact hb)
    rw[<-hl] at co
    have osp:=fun t e=>jw (e:=e) (t:=t) hb
    generalize l[q]=b at *
    simp only[tt,seval,hq1]
    cases ho:bg l q b with
    |none=>
     rw[ho] at he co
     simp only at he
     injection he with he;subst he
     refine hJ (co) ?_ ?_ ?_
     ·decide
     ·simp only[tt,seval]
     rintro r ⟨t,rfl,_⟩
     simp only[tt,seval,h4,DT,Tok.row]
     refine⟨.tu [([.sl 0 [] none],true),([.v (.int .i64 (q:Nat))],true)],[],rfl,am ?_⟩
     simp only[tt,seval]
    |some y=>
     obtain⟨t,e⟩:=y
     rw[ho] at he co
     simp only at he
     obtain⟨he1,he2,_⟩:=osp t e ho
     have hne:((e:Int)<0)=False:=eq_false (by omega)
     refine hJ (co) ?_ ?_ ?_
     ·decide
     ·simp only[tt,seval]
     rintro r ⟨t',rfl,ht⟩
     simp only[tt,seval,h4,DT,Tok.row,hne]
     obtain rfl:=ht t e rfl
     refine⟨by kernel_rfl,⟨by simp only[maxLen];omega,by omega⟩,?_⟩
     refine⟨[(40,.arr 76 (m++[t']).length ((m++[t']).flatMap Tok.row) none)],none,by simp only[List.flatMap_append,aA,List.flatMap_cons,List.flatMap_nil,List.append_nil,Tok.row];exact ac rfl (ak _),al _,⟨e,n,m++[t'],rfl,by simp,by omega,by simp;omega,he,by omega,rfl,rfl⟩,by simp only[aU];omega⟩
def uZ:Option (List UInt8×Nat)->S
 |some (x,e)=>.tu [([.v (.string ⟨x.toArray⟩)],true),([.v (.int .i64 (e:Nat))],true),([.v (.bool true)],true)]
 |none=>.tu [([.v (.string ⟨#[]⟩)],true),([.v (.int .i64 0)],true),([.v (.bool false)],true)]
theorem nw (s:ByteArray) (a:Nat) (q:UInt8) (hs:s.size<=1048576) (hq:s.data.toList[a]?=some q):Cl Tryz.prog 236 [vs s,vi a] [] fun r _=>r=uZ (dt s.data.toList q (s.data.toList.length+1) (a+1) []):=by
 obtain⟨l,hl⟩:∃l,l=s.data.toList:=⟨_,rfl⟩
 have hll:l.length=s.size:=by rw[hl];exact aG s
 rw[<-hl] at hq ⊢
 obtain⟨ha,hqa⟩:=List.getElem?_eq_some_iff.1 hq
 refine ae ab false Tryz.func236 rfl (by kernel_rfl) ?_
 simp only[Tryz.f236,tt,seval]
 rw[bV hl ha,hqa]
 simp only[tt,seval]
 rw[ax (n:=(a:Int)+1) (by omega) (by omega)]
 refine dLoop.gh [.ren 13 51] ⟨by decide,by decide,?_⟩
 refine dLoop0.intro (fun f' L p=>∃(i n:Nat) (bs:List UInt8),f' 9=vi i/\f' 8 = .c (.s 51 bs.length)/\i<=s.size/\bs.length<=i/\dt l q n i bs=dt l q (l.length+1) (a+1) []/\l.length+1<=n+i/\L=[(51,.arr 5 bs.length (aO bs) none)]/\p=none) (fun f' _ _=>(s.size-aU (f' 9)).toNat) [(51,.arr 5 0 (aO []) none)] none ⟨ac rfl (ak _),al _,?_⟩ ?_
 ·simp only[tt,seval]
  exact⟨a+1,l.length+1,[],rfl,rfl,by omega,by simp,rfl,by omega,rfl⟩
 ·rintro g L p ⟨i,n,bs,h9,h8,hi,hbl,he,hn,rfl,rfl⟩
  simp only[tt,seval] at h9 h8
  simp only[tt,seval,h9,Int.ofNat_lt]
  cases n with
  |zero=>exact absurd hn (by omega)
  |succ n=>
  rw[dt] at he
  refine fun _=>aa (fun hlt=>?_) (fun hge=>?_)
  ·have hil:i<l.length:=by omega
   have hx:l[i]?=some l[i]:=ay hil
   have ex:bs.length<=9223372036854775807:=by omega
   have ew:IntKind.i64.wrap ((i:Int)+1)=((i+1:Nat):Int):=by rw[ax (by omega) (by omega)];omega
   rw[hx] at he
   simp only at he
   rw[bV hl hil]
   simp only[tt,seval,h9,h8]
   by_cases hc:l[i]=q
   ·have eq1:((l[i].toNat:Int)=(q.toNat:Int))=True:=eq_true (by rw[hc])
    rw[if_pos hc] at he
    simp only[tt,seval,eq1]
    refine fun _=>?_
    rw[ew]
    by_cases hi1:i+1<l.length
    ·have g1:decide (((i+1:Nat):Int)=(s.size:Int))=false:=ao (by omega)
     rw[ay hi1] at he
     simp only[tt,seval,h9,g1,ew]
     rw[bV hl hi1]
     simp only[tt,seval,h9,h8]
     refine aa (fun hne=>?_) (fun heq=>?_)
     ·have hd:¬l[i+1]=q:=fun e=>by rw[e] at hne;simp at hne
      rw[if_neg (by simpa using hd)] at he
      refine⟨by kernel_rfl,by simp only[maxLen];omega,bs,rfl,rfl,?_⟩
      simp only[tt,seval,h9,ew]
      rw[<-he]
      exact⟨_,_,rfl,ai rfl⟩
     ·have hd:l[i+1]=q:=UInt8.toNat_inj.1 (by simp at heq;omega)
      rw[if_pos (by rw[hd])] at he
      rw[ew,bV hl hi1]
      simp only[tt,seval]
      refine⟨by kernel_rfl,⟨by simp only[maxLen];omega,by omega⟩,?_⟩
      rw[dA,hd,ax (n:=((i+1:Nat):Int)+1) (by omega) (by omega)]
      refine⟨[(51,.arr 5 (bs++[q]).length (aO (bs++[q])) none)],none,ac (by simp [Go.Dv.look]) (ak _),al _,⟨i+2,n,bs++[q],gB (by omega),by simp,by omega,by simp;omega,he,by omega,rfl,rfl⟩,by simp only[aU];omega⟩
    ·have g1:decide (((i+1:Nat):Int)=(s.size:Int))=true:=ap (by omega)
     rw[List.getElem?_eq_none_iff.2 (by omega),if_neg (by simp)] at he
     simp only[tt,seval,h9,h8,g1,ew]
     refine⟨by kernel_rfl,by simp only[maxLen];omega,bs,rfl,rfl,?_⟩
     simp only[tt,seval,h9,ew]
     rw[<-he]
     exact⟨_,_,rfl,ai rfl⟩
   ·have eq1:((l[i].toNat:Int)=(q.toNat:Int))=False:=eq_false fun h=>hc (UInt8.toNat_inj.1 (by omega))
    rw[if_neg hc] at he
    simp only[tt,seval,eq1]
    rw[bV hl hil]
    simp only[tt,seval,h9]
    refine⟨by kernel_rfl,⟨by simp only[maxLen];omega,by omega⟩,?_⟩
    rw[dA,ew]
    refine⟨[(51,.arr 5 (bs++[l[i]]).length (aO (bs++[l[i]])) none)],none,ac (by simp [Go.Dv.look]) (ak _),al _,⟨i+1,n,bs++[l[i]],rfl,by simp,by omega,by simp;omega,he,by omega,rfl,rfl⟩,by simp only[aU];omega⟩
  ·have:i=s.size:=by omega
   subst this
   rw[List.getElem?_eq_none_iff.2 (by omega)] at he
   simp only at he
   rw[<-he]
   exact⟨_,_,rfl,ai rfl⟩
end Go.Proofs.YteffjmaadkkmeaaGreatDoor
namespace Go.Proofs.YteffjmaadkkmeaaGreatDoor
open Go Go.Shelf Go.Proofs
def Tryz.lays143_ren:Go.Shelf.Ren:=⟨fun|143=>231|219=>275|217=>273|225=>312|224=>313|267=>314|266=>311|314=>330|n=>n,fun|9=>9|3=>3|4=>4|5=>5|46=>251|146=>268|51=>267|n=>n,fun|1=>0|n=>n⟩
theorem Tryz.lays143:Go.Proofs.Lays.n143 Tryz.prog Tryz.lays143_ren:={
 mixed:=by kernel_rfl
 f143:=Tryz.func231.trans (congrArg some (by kernel_rfl))
 f217:=Tryz.func273.trans (congrArg some (by kernel_rfl))
 f219:=Tryz.func275.trans (congrArg some (by kernel_rfl))
 f224:=Tryz.func313.trans (congrArg some (by kernel_rfl))
 f225:=Tryz.func312.trans (congrArg some (by kernel_rfl))
 f266:=Tryz.func311.trans (congrArg some (by kernel_rfl))
 f267:=Tryz.func314.trans (congrArg some (by kernel_rfl))
 f314:=Tryz.func330.trans (congrArg some (by kernel_rfl))
 t3:=Tryz.underlying3
 a3:=Tryz.isAgg3
 z3:=Tryz.sizeOf3
 v3:=Tryz.zeroValue3
 t4:=Tryz.underlying4
 a4:=Tryz.isAgg4
 z4:=Tryz.sizeOf4
 v4:=Tryz.zeroValue4
 t5:=Tryz.underlying5
 a5:=Tryz.isAgg5
 z5:=Tryz.sizeOf5
 v5:=Tryz.zeroValue5
 t9:=Tryz.underlying9
 a9:=Tryz.isAgg9
 z9:=Tryz.sizeOf9
 v9:=Tryz.zeroValue9
 t46:=Tryz.underlying251
 a46:=Tryz.isAgg251
 z46:=Tryz.sizeOf251
 v46:=Tryz.zeroValue251
 t51:=Tryz.underlying267
 a51:=Tryz.isAgg267
 z51:=Tryz.sizeOf267
 v51:=Tryz.zeroValue267
 t146:=Tryz.underlying268
 a146:=Tryz.isAgg268
 z146:=Tryz.sizeOf268
 v146:=Tryz.zeroValue268
 g1:=by kernel_rfl }
def Tryz.lays137_ren:Go.Shelf.Ren:=⟨fun|137=>229|217=>273|266=>311|n=>n,fun|9=>9|5=>5|3=>3|n=>n,fun|n=>n⟩
theorem Tryz.lays137:Go.Proofs.Lays.n137 Tryz.prog Tryz.lays137_ren:={
 mixed:=by kernel_rfl
 f137:=Tryz.func229.trans (congrArg some (by kernel_rfl))
 f217:=Tryz.func273.trans (congrArg some (by kernel_rfl))
 f266:=Tryz.func311.trans (congrArg some (by kernel_rfl))
 t3:=Tryz.underlying3
 a3:=Tryz.isAgg3
 z3:=Tryz.sizeOf3
 v3:=Tryz.zeroValue3
 t5:=Tryz.underlying5
 a5:=Tryz.isAgg5
 z5:=Tryz.sizeOf5
 v5:=Tryz.zeroValue5
 t9:=Tryz.underlying9
 a9:=Tryz.isAgg9
 z9:=Tryz.sizeOf9
 v9:=Tryz.zeroValue9 }
def Tryz.lays99_ren:Go.Shelf.Ren:=⟨fun|99=>230|206=>274|n=>n,fun|9=>9|4=>4|3=>3|n=>n,fun|n=>n⟩
theorem Tryz.lays99:Go.Proofs.Lays.n99 Tryz.prog Tryz.lays99_ren:={
 mixed:=by kernel_rfl
 f99:=Tryz.func230.trans (congrArg some (by kernel_rfl))
 f206:=Tryz.func274.trans (congrArg some (by kernel_rfl))
 t3:=Tryz.underlying3
 a3:=Tryz.isAgg3
 z3:=Tryz.sizeOf3
 v3:=Tryz.zeroValue3
 t4:=Tryz.underlying4
 a4:=Tryz.isAgg4
 z4:=Tryz.sizeOf4
 v4:=Tryz.zeroValue4
 t9:=Tryz.underlying9
 a9:=Tryz.isAgg9
 z9:=Tryz.sizeOf9
 v9:=Tryz.zeroValue9 }
end Go.Proofs.YteffjmaadkkmeaaGreatDoor
set_option maxRecDepth 8000
namespace Go.Proofs.YteffjmaadkkmeaaGreatDoor
open Go Go.Dv
open Go.Vc (D cY d3 cN bk)
open Go.RowKit (Below)
theorem mu (w:World):Below w.heap.size w w:=⟨rfl,rfl,rfl,Nat.le_refl _,fun _ _=>rfl⟩
theorem kJ (s p:ByteArray):Cl Tryz.prog 230 [vs s,vs p] [] fun r _=>r=vb (Lib.hasPrefix s.data.toList p.data.toList):=
 Cl.ofVals (by kernel_rfl) [.string s,.string p] fun w hg=>by
  refine (Any.strings_HasPrefix Tryz.lays99 s p w).mono ?_
  rintro e w' ⟨rfl,rfl⟩
  exact⟨_,rfl,trivial,rfl,mu _⟩
theorem oN (s:ByteArray) (c:UInt8):Cl Tryz.prog 229 [vs s,vu (c.toNat:Int)] [] fun r _=>r=vi (Lib.indexByte s.data.toList c):=
 Cl.ofVals (by kernel_rfl) [.string s,.int .u8 (c.toNat:Int)] fun w hg=>by
  refine (Any.strings_IndexByte Tryz.lays137 s (c.toNat:Int) w).mono ?_
  rintro e w' ⟨rfl,rfl⟩
  exact⟨_,rfl,trivial,by simp,mu _⟩
theorem B4 (s p:ByteArray) (hs:s.size<=1048576):Cl Tryz.prog 231 [vs s,vs p] [] fun r _=>r=vi (Lib.index s.data.toList p.data.toList):=
 Cl.ofVals (by kernel_rfl) [.string s,.string p] fun w hg=>by
  obtain⟨m,hm⟩:=sq hg
  refine (Any.strings_Index Tryz.lays143 s p m w (by omega) hm).mono ?_
  rintro e w' ⟨rfl,rfl⟩
  exact⟨_,rfl,trivial,rfl,mu _⟩
theorem ta {s:ByteArray} {l:List UInt8} (hl:l=s.data.toList) (i:Nat):s.extract i s.size=⟨(l.drop i).toArray⟩:=by
 rw[hM hl]
 unfold b4
 rw[List.take_of_length_le]
 rw[List.length_drop,hl,aG]
 exact Nat.le_refl _
theorem DU (l:List UInt8) (i:Nat) (a b:UInt8):Lib.hasPrefix (l.drop i) [a,b]=decide (l[i]?=some a/\l[i+1]?=some b):=by
 have h0:l[i]?=(l.drop i)[0]?:=by simp [List.getElem?_drop]
 have h1:l[i+1]?=(l.drop i)[1]?:=by simp [List.getElem?_drop]
 rw[h0,h1]
 unfold Lib.hasPrefix
 generalize l.drop i=m
 match m with
 | []=>simp
 | [x]=>
  show (a==x&&false)=_
  simp
 |x::y::r=>
  show (a==x&&(b==y&&true))=_
  by_cases h1:x=a
  ·by_cases h2:y=b
   ·simp [h1,h2]
   ·have h2':¬b=y:=fun e=>h2 e.symm
    simp [h1,h2,h2']
  ·have h1':¬a=x:=fun e=>h1 e.symm
   simp [h1,h1']
theorem xM (l:List UInt8):∀n j,l.length-j<=n->d5 l (d5 l j)=d5 l j
 |0,j,h=>by
  have:=eS (B:=l) j
  rw[List.getElem?_eq_none_iff.2 (by omega)] at this
  simp only at this
  rw[this,this]
 |n+1,j,h=>by
  have:=eS (B:=l) j
  cases hx:l[j]? with
  |none=>
   rw[hx] at this
   simp only at this
   rw[this,this]
  |some b=>
   rw[hx] at this
   simp only at this
   split at this
   ·rw[this,this]
   ·rw[this];exact xM l n (j+1) (by omega)
theorem CG (l:List UInt8) (c:UInt8):Lib.indexByte l c=if (l.takeWhile fun b=>!(b==c)).length<l.length then ((l.takeWhile fun b=>!(b==c)).length:Int) else -1:=by
 induction l with
 |nil=>rfl
 |cons b r ih=>
  unfold Lib.indexByte
  rw[List.takeWhile_cons]
  by_cases h:(b==c)=true
  ·simp [h]
  ·rw[if_neg h,ih]
   have hb:(!(b==c))=true:=by simp [h]
   simp only[hb,if_true,List.length_cons,Nat.add_lt_add_iff_right]
   split
   ·rw[if_neg (by simp only[beq_iff_eq];omega)];omega
   ·rw[if_pos (by rfl)]
theorem DV (b:UInt8):0<=Lib.indexByte [32,9,10,13] b↔ud b=true:=by
 unfold ud
 simp only[Lib.indexByte,Bool.or_eq_true,beq_iff_eq]
 by_cases h1:b=32
 ·subst h1;decide
 by_cases h2:b=9
 ·subst h2;decide
 by_cases h3:b=10
 ·subst h3;decide
 by_cases h4:b=13
 ·subst h4;decide
 simp only[h1,h2,h3,h4,eq_comm,or_self,iff_false,if_false]
 simp []
theorem xN (l:List UInt8):∀n i,i<=l.length->l.length+1<=n+i->lO l n i=(if Lib.index (l.drop i) [42,47] = -1 then none else some (i+(Lib.index (l.drop i) [42,47]).toNat))
 |0,i,hi,hn=>absurd hn (by omega)
 |n+1,i,hi,hn=>by
  rw[lO]
  have hp:=DU l i 42 47
  unfold Lib.hasPrefix at hp
  by_cases hlt:i<l.length
  ·rw[List.drop_eq_getElem_cons hlt] at hp ⊢
   unfold Lib.index
   rw[hp]
   by_cases hq:l[i]?=some 42/\l[i+1]?=some 47
   ·rw[if_pos hq,ap hq];simp
   ·rw[if_neg hq,if_pos hlt,ao hq,xN l n (i+1) (by omega) (by omega)]
    have hg:=Lib.index_ge (l.drop (i+1)) [42,47]
    by_cases hm:Lib.index (l.drop (i+1)) [42,47] = -1
    ·simp [hm]
    ·simp only[hm,Bool.false_eq_true,if_false,beq_iff_eq]
     rw[if_neg (by omega)]
     congr 1
     omega
  ·have hq:¬(l[i]?=some 42/\l[i+1]?=some 47):=fun h=>hlt (List.getElem?_eq_some_iff.1 h.1).1
   rw[if_neg hq,if_neg hlt,List.drop_eq_nil_of_le (by omega)]
   rfl
def EC:Option (Nat×Bool)->S
 |some (p,b)=>.tu [([.v (.int .i64 (p:Nat))],true),([.v (.bool b)],true)]
 |none=>.tu []
set_option maxHeartbeats 4000000 in
theorem DW (s:ByteArray) (a:Nat) (hs:s.size<=1048576) (ha:a<=s.size):Cl Tryz.prog 185 [vs s,vi a] [] fun r _=>r=EC (fh s.data.toList (s.data.toList.length+1) a):=by
 obtain⟨l,hl⟩:∃l,l=s.data.toList:=⟨_,rfl⟩
 have hll:l.length=s.size:=by rw[hl];exact aG s
 rw[<-hl]
 obtain⟨rr,ok,hrr,hr1,hr2⟩:=eV (B:=l) (l.length+1) a (by omega) (by omega)
 rw[hrr]
 refine ae ab false Tryz.func185 rfl (by kernel_rfl) ?_
 simp only[Tryz.f185,tt,seval]
 refine dLoop.intro (fun f' L p=>∃(j n:Nat),f' 1=vi j/\j<=s.size/\fh l n j=some (rr,ok)/\l.length+1<=n+j/\L=[]/\p=none) (fun f' _ _=>(s.size-aU (f' 1)).toNat) [] none ⟨ak _,al _,?_⟩ ?_
 ·simp only[tt,seval]
  exact⟨a,l.length+1,rfl,ha,hrr,by omega⟩
 ·rintro g L p ⟨j,n,h1,hj,he,hn,rfl,rfl⟩
  simp only[tt,seval] at h1
  cases n with
  |zero=>exact absurd hn (by omega)
  |succ n=>
  rw[fh] at he
  simp only[tt,seval,h1,Int.ofNat_lt]
  refine fun _=>aa (fun hlt=>?_) (fun hge=>?_)
  ·have hil:j<l.length:=by omega
   have hrs:(⟨(l.drop j).toArray⟩:ByteArray).size<=1048576:=by show (l.drop j).toArray.size<=_;simp;omega
   rw[ay hil] at he
   simp only at he
   rw[nu (by kernel_rfl) (show s.size<=9223372036854775807 by omega) (by omega) (by omega),Int.toNat_natCast,ta hl]
   simp only[tt,seval,h1]
   rw[bV hl hil]
   simp only[tt,seval]
   have cw:=oN ⟨#[32,9,10,13]⟩ l[j]
   have hwi:=DV l[j]
   refine cZ (cw) ?_ ?_<;>simp only[tt,seval,h1]
   by_cases hw:ud l[j]=true
   ·rw[if_pos hw] at he
    have e1:(0<=Lib.indexByte [32,9,10,13] l[j])=True:=eq_true (hwi.2 hw)
    simp only[tt,seval,e1]
    rw[ax (n:=(j:Int)+1) (by omega) (by omega)]
    exact⟨[],none,ak _,al _,⟨j+1,n,rfl,by omega,he,by omega,rfl,rfl⟩,by simp only[aU];omega⟩
   ·rw[if_neg hw] at he
    have e1:(0<=Lib.indexByte [32,9,10,13] l[j])=False:=eq_false fun h=>hw (hwi.1 h)
    simp only[tt,seval,e1]
    have c1:=kJ ⟨(l.drop j).toArray⟩ ⟨#[45,45]⟩
    have e2:Lib.hasPrefix (⟨(l.drop j).toArray⟩:ByteArray).data.toList (⟨#[45,45]⟩:ByteArray).data.toList=decide (l[j]=45/\l[j+1]?=some 45):=by
     show Lib.hasPrefix (l.drop j) [45,45]=_
     rw[DU,ay hil];simp
    rw[e2] at c1
    refine cZ (c1) ?_ ?_<;>simp only[tt,seval]
    by_cases hd:l[j]=45/\l[j+1]?=some 45
    ·have d1:decide (l[j]=45/\l[j+1]?=some 45)=true:=ap hd
     have d1':(l[j]=45/\l[j+1]?=some 45)=True:=eq_true hd
     rw[if_pos hd] at he
     have hne:¬l[j]=10:=by rw[hd.1];decide
     have eol:=eS (B:=l) j
     rw[ay hil] at eol
     simp only[hne,if_false] at eol
     have gol:=mO (B:=l) (j+1)
     have gl2:=ue (B:=l) (i:=j) (by omega)
     simp only[tt,seval,d1']
     have c2:=oN ⟨(l.drop j).toArray⟩ 10
     have e3:Lib.indexByte (⟨(l.drop j).toArray⟩:ByteArray).data.toList 10=if d5 l j<l.length then ((d5 l j:Nat):Int)-j else -1:=by
      show Lib.indexByte (l.drop j) 10=_
      rw[CG,List.length_drop]
      have:d5 l j=j+((l.drop j).takeWhile fun b=>!(b==10)).length:=rfl
      split<;>split<;>omega
     rw[e3] at c2
     refine cZ (c2) ?_ ?_<;>simp only[tt,seval,h1]
     cases n with
     |zero=>exact absurd hn (by omega)
     |succ n=>
     rw[fh] at he
     by_cases hE:d5 l j<l.length
     ·have hv:l[d5 l j]?=some 10:=by
       have:=eS (B:=l) (d5 l j)
       have h2:=xM l _ j (Nat.le_refl _)
       rw[ay hE] at this ⊢
       simp only at this
       split at this
       ·rename_i h;rw[h]
       ·have:=mO (B:=l) (d5 l j+1);omega
      rw[hv] at he
      simp only[show ud 10=true from rfl,if_true] at he
      have f1:((if d5 l j<l.length then ((d5 l j:Nat):Int)-j else -1)<0)=False:=eq_false (by rw[if_pos hE];omega)
      have f1':(((d5 l j:Nat):Int)-j<0)=False:=eq_false (by omega)
      simp only[tt,seval,f1',hE]
      rw[ax (n:=((d5 l j:Nat):Int)-j+1) (by omega) (by omega),ax (n:=(j:Int)+(((d5 l j:Nat):Int)-j+1)) (by omega) (by omega)]
      exact⟨[],none,ak _,al _,⟨d5 l j+1,n,gB (by omega),by omega,he,by omega,rfl,rfl⟩,by simp only[aU];omega⟩
     ·rw[List.getElem?_eq_none_iff.2 (by omega)] at he
      simp only at he
      injection he with he;injection he with he1 he2;subst he1 he2
      have f1:((if d5 l j<l.length then ((d5 l j:Nat):Int)-j else -1)<0)=True:=eq_true (by rw[if_neg hE];omega)
      simp only[tt,seval,f1]
      refine fun _=>⟨.tu [([.v (.int .i64 (s.size:Nat))],true),([.v (.bool true)],true)],[],?_,ai rfl⟩
      rw[show d5 l j=s.size by omega];rfl
    ·have d1:decide (l[j]=45/\l[j+1]?=some 45)=false:=ao hd
     have d1':(l[j]=45/\l[j+1]?=some 45)=False:=eq_false hd
     rw[if_neg hd] at he
     simp only[tt,seval,d1']
     have c2:=kJ ⟨(l.drop j).toArray⟩ ⟨#[47,42]⟩
     have e3:Lib.hasPrefix (⟨(l.drop j).toArray⟩:ByteArray).data.toList (⟨#[47,42]⟩:ByteArray).data.toList=decide (l[j]=47/\l[j+1]?=some 42):=by
      show Lib.hasPrefix (l.drop j) [47,42]=_
      rw[DU,ay hil];simp
     rw[e3] at c2
     refine cZ (c2) ?_ ?_<;>simp only[tt,seval,h1]
     by_cases hc:l[j]=47/\l[j+1]?=some 42
     ·have d2:decide (l[j]=47/\l[j+1]?=some 42)=true:=ap hc
      have d2':(l[j]=47/\l[j+1]?=some 42)=True:=eq_true hc
      rw[if_pos hc] at he
      have hj2:j+1<l.length:=(List.getElem?_eq_some_iff.1 hc.2).1
      simp only[tt,seval,d2']
      have hrz:(⟨(l.drop j).toArray⟩:ByteArray).size=l.length-j:=by show (l.drop j).toArray.size=_;simp
      rw[nu (by kernel_rfl) (show ByteArray.size _<=9223372036854775807 by omega) (by omega) (by omega)]
      have e4:(⟨(l.drop j).toArray⟩:ByteArray).extract (2:Int).toNat (⟨(l.drop j).toArray⟩:ByteArray).size=⟨(l.drop (j+2)).toArray⟩:=by
       rw[ta (l:=l.drop j) (by simp)]
       simp [List.drop_drop]
      rw[e4]
      simp only[tt,seval]
      have c3:=B4 ⟨(l.drop (j+2)).toArray⟩ ⟨#[42,47]⟩ (by show (l.drop (j+2)).toArray.size<=_;simp;omega)
      have e5:Lib.index (⟨(l.drop (j+2)).toArray⟩:ByteArray).data.toList (⟨#[42,47]⟩:ByteArray).data.toList=Lib.index (l.drop (j+2)) [42,47]:=rfl
      rw[e5] at c3
      have hx:=xN l (l.length+1) (j+2) (by omega) (by omega)
      have hg:=Lib.index_ge (l.drop (j+2)) [42,47]
      generalize Lib.index (l.drop (j+2)) [42,47]=ix at *
      refine cZ (c3) ?_ ?_<;>simp only[tt,seval,h1]
      rw[hx] at he
      by_cases hm:ix = -1
      ·rw[if_pos hm] at he
       simp only at he
       injection he with he;injection he with he1 he2;subst he1 he2
       have f1:(ix<0)=True:=eq_true (by omega)
       simp only[tt,seval,f1]
       exact⟨_,_,rfl,ai rfl⟩
      ·rw[if_neg hm] at he hx
       have hsp:=mi hx
       simp only at he
       have f1:(ix<0)=False:=eq_false (by omega)
       simp only[tt,seval,f1]
       rw[ax (n:=ix+4) (by omega) (by omega),ax (n:=(j:Int)+(ix+4)) (by omega) (by omega)]
       exact⟨[],none,ak _,al _,⟨j+2+ix.toNat+2,n,gB (by omega),by omega,he,by omega,rfl,rfl⟩,by simp only[aU];omega⟩
     ·have d2:decide (l[j]=47/\l[j+1]?=some 42)=false:=ao hc
      have d2':(l[j]=47/\l[j+1]?=some 42)=False:=eq_false hc
      rw[if_neg hc] at he
      injection he with he;injection he with he1 he2;subst he1 he2
      simp only[tt,seval,d2']
      exact⟨_,_,rfl,ai rfl⟩
  ·have:j=s.size:=by omega
   subst this
   rw[List.getElem?_eq_none_iff.2 (by omega)] at he
   simp only at he
   injection he with he;injection he with he1 he2;subst he1 he2
   exact⟨_,_,rfl,ai rfl⟩
end Go.Proofs.YteffjmaadkkmeaaGreatDoor
set_option maxRecDepth 8000
namespace Go.Proofs.YteffjmaadkkmeaaGreatDoor
open Go Go.Dv
open Go.Vc (D cY d3 cN bk)
theorem Fv {l:List UInt8} {a:Nat} (k:Nat) (s:List UInt8) (h:s <+: l.drop a) (hs:s.length=k):(⟨s.toArray⟩:ByteArray)=b4 l a (a+k):=by
 unfold b4
 rw[Nat.add_sub_cancel_left,<-hs,<-List.prefix_iff_eq_take.1 h]
structure BestI (S:List ByteArray) (m:List UInt8) (t:ByteArray):Prop where
 got:t=⟨#[]⟩∨(t∈S/\t.data.toList <+: m)
 most:∀s∈S,s.data.toList <+: m->s.size<=t.size
theorem BestI.nil (m:List UInt8):BestI [] m ⟨#[]⟩:=⟨.inl rfl,fun _ h=>by cases h⟩
theorem BestI.yes {S:List ByteArray} {m:List UInt8} {t s:ByteArray} (h:BestI S m t) (hp:s.data.toList <+: m) (hl:t.size<s.size):BestI (S++[s]) m s:=
 ⟨.inr ⟨by simp,hp⟩,fun x hx hm=>by
   rcases List.mem_append.1 hx with hx|hx
   ·have:=h.most x hx hm;omega
   ·rw[List.mem_singleton.1 hx];exact Nat.le_refl _⟩
theorem BestI.no {S:List ByteArray} {m:List UInt8} {t s:ByteArray} (h:BestI S m t) (hp:s.data.toList <+: m->s.size<=t.size):BestI (S++[s]) m t:=
 ⟨h.got.imp id fun ⟨h1,h2⟩=>⟨by simp [h1],h2⟩,fun x hx hm=>by
   rcases List.mem_append.1 hx with hx|hx
   ·exact h.most x hx hm
   ·rw[List.mem_singleton.1 hx] at hm ⊢;exact hp hm⟩
theorem jF:∀s∈signs,1<=s.size/\s.size<=2:=by decide
theorem lp {s:ByteArray}:eU s=true↔s∈signs:=by
 unfold eU
 simp [List.any_eq_true]
theorem xO (l:List UInt8) (a k:Nat):(b4 l a (a+k)).data.toList <+: l.drop a:=by
 unfold b4
 rw[Nat.add_sub_cancel_left]
 exact List.take_prefix _ _
theorem yL {l:List UInt8} {a:Nat} {t:ByteArray} (ha:a<l.length) (h:BestI signs (l.drop a) t):(t=b4 l a (de l a)/\a+t.size=de l a)∨(eU t=false/\eU (b4 l a (de l a))=false):=by
 have hlen:∀k,a+k<=l.length->(b4 l a (a+k)).size=k:=fun k hk=>by
  unfold b4
  show ((l.drop a).take (a+k-a)).toArray.size=_
  simp;omega
 have ht2:t.size<=2:=by
  rcases h.got with rfl|⟨h1,_⟩
  ·exact Nat.zero_le _
  ·exact (jF _ h1).2
 have cutt:∀k,t.size=k->1<=k->t=b4 l a (a+k)/\t∈signs:=fun k hk h1=>by
  rcases h.got with rfl|⟨h2,h3⟩
  ·exact absurd hk (by show ¬(0=k);omega)
  ·exact⟨Fv k t.data.toList h3 (by rw[<-hk];simp),h2⟩
 unfold de
 by_cases c2:a+2<=l.length/\eU (b4 l a (a+2))=true
 ·rw[if_pos c2]
  have:=h.most _ (lp.1 c2.2) (xO l a 2)
  rw[hlen 2 c2.1] at this
  have hz:t.size=2:=by omega
  exact .inl ⟨(cutt 2 hz (by omega)).1,by omega⟩
 ·rw[if_neg c2]
  have h2:t.size≠2:=fun hz=>by
   obtain⟨e,hm⟩:=cutt 2 hz (by omega)
   refine c2 ⟨?_,by rw[<-e];exact lp.2 hm⟩
   have:(b4 l a (a+2)).size<=l.length-a:=by
    unfold b4
    show ((l.drop a).take (a+2-a)).toArray.size<=_
    simp;omega
   rw[<-e] at this
   omega
  by_cases c1:eU (b4 l a (a+1))=true
  ·have:=h.most _ (lp.1 c1) (xO l a 1)
   rw[hlen 1 (by omega)] at this
   have hz:t.size=1:=by omega
   exact .inl ⟨(cutt 1 hz (by omega)).1,by omega⟩
  ·refine .inr ⟨?_,by simpa using c1⟩
   by_cases hz:t.size=1
   ·obtain⟨e,hm⟩:=cutt 1 hz (by omega)
    exact absurd (by rw[<-e];exact lp.2 hm) c1
   ·rcases h.got with rfl|⟨h3,_⟩
    ·rfl
    ·have:=(jF _ h3).1;omega
set_option maxHeartbeats 8000000 in
theorem v7 (s:ByteArray) (a:Nat) (b:UInt8) (hs:s.size<=1048576) (hb:s.data.toList[a]?=some b):Cl Tryz.prog 186 [vs s,vi a] [] fun r _=>∃(t:Tok) (e:Int) (ok:Bool),r = .tu [(av t.row,false),([.v (.int .i64 e)],true),([.v (.bool ok)],true)]/\ok=(bg s.data.toList a b).isSome/\∀t' e',bg s.data.toList a b=some (t',e')->t=t'/\e=e':=by
 obtain⟨l,hl⟩:∃l,l=s.data.toList:=⟨_,rfl⟩
 have hll:l.length=s.size:=by rw[hl];exact aG s
 rw[<-hl] at hb ⊢
 obtain⟨ha,hba⟩:=List.getElem?_eq_some_iff.1 hb
 refine ae ab false Tryz.func186 rfl (by kernel_rfl) ?_
 simp only[Tryz.f186,tt,seval]
 rw[bV hl ha,hba]
 simp only[tt,seval]
 refine cZ (py b.toNat) ?_ ?_<;>simp only[tt,seval]
 cases hP:jR b.toNat||decide ((48:Int)<=(b.toNat:Int)/\(b.toNat:Int)<=57) with
 |true=>
  simp only[tt,seval]
  have hrl:=mP (B:=l) a
  have hrh:=mQ (B:=l) (i:=a) (by omega)
  refine dLoop.intro (fun f' L p=>∃j:Nat,f' 8=vi j/\j<=s.size/\b8 l j=b8 l a/\L=[(7,.str [.v (.int .i64 0),.v (.string ByteArray.empty),.v (.int .i64 a)]),(4,.str [.v (.int .i64 0),.v (.string ByteArray.empty),.v (.int .i64 0)])]/\p=none) (fun f' _ _=>(s.size-aU (f' 8)).toNat) [(7,.str [.v (.int .i64 0),.v (.string ByteArray.empty),.v (.int .i64 a)]),(4,.str [.v (.int .i64 0),.v (.string ByteArray.empty),.v (.int .i64 0)])] none ⟨ac rfl (ac rfl (ak _)),al _,?_⟩ ?_
  ·simp only[tt,seval]
   exact⟨a,rfl,by omega,rfl⟩
  ·rintro g L p ⟨j,h8,hj,he,rfl,rfl⟩
   simp only[tt,seval] at h8
   simp only[tt,seval,h8,Int.ofNat_lt]
   refine fun _=>?_
   by_cases hlt:j<s.size
   ·have hil:j<l.length:=by omega
    simp only[tt,seval,h8,hlt]
    rw[bV hl hil]
    simp only[tt,seval]
    refine cZ (py l[j].toNat) ?_ ?_<;>simp only[tt,seval,h8]
    cases hL:jR l[j].toNat||decide ((48:Int)<=(l[j].toNat:Int)/\(l[j].toNat:Int)<=57) with
    |true=>
     simp only[tt,seval]
     rw[ax (n:=(j:Int)+1) (by omega) (by omega)]
     exact⟨[(7,.str [.v (.int .i64 0),.v (.string ByteArray.empty),.v (.int .i64 a)]),(4,.str [.v (.int .i64 0),.v (.string ByteArray.empty),.v (.int .i64 0)])],none,ac rfl (ac rfl (ak _)),al _,⟨j+1,rfl,by omega,by rw[oq hil hL,he],rfl,rfl⟩,by simp only[aU];omega⟩
    |false=>
     have ej:j=b8 l a:=by rw[<-he,uY hil hL]
     subst ej
     simp only[tt,seval]
     have hsz:(b4 l a (b8 l a)).size<=1048576:=by rw[hO];omega
     refine dDrawn.intro [] (iK [0,2,4,6,8,11,12,15]) (by kernel_rfl) ?_
     simp only[tt,seval]
     all_goals try simp only[tt,seval,h8]
     all_goals rw[gw (by kernel_rfl) (show s.size<=9223372036854775807 by omega) (by omega) (by omega) (by omega),Int.toNat_natCast,Int.toNat_natCast,hM hl]
     generalize hx:b4 l a (b8 l a)=x at *
     simp only[tt,seval]
     refine cZ (kZ b.toNat) ?_ ?_<;>simp only[tt,seval]
     cases hF:decide ((48:Int)<=(b.toNat:Int)/\(b.toNat:Int)<=57) with
     |true=>
      have hF':=of_decide_eq_true hF
      have hL:jR b.toNat=false:=by unfold jR;simp only[Bool.or_eq_false_iff,decide_eq_false_iff_not];omega
      have eF:((48:Int)<=(b.toNat:Int)/\(b.toNat:Int)<=57)=True:=eq_true hF'
      have hraw:cC l a b=some (⟨3,x,a⟩,b8 l a):=by
       unfold cC
       simp only[ff,gx,hL,hF,if_true,Bool.false_eq_true,if_false,hx]
      simp only[tt,seval,eF]
      refine dDrawn.intro [] (iK [0,2,4,7,9,10,12]) (by kernel_rfl) ?_
      simp only[tt,seval]
      all_goals try simp only[tt,seval,h8]
      all_goals repeat' first|refine cJ ?_ ?_|refine b7 ?_ ?_
      all_goals
       refine cZ (bM (Tok.mk 3 x a) hsz) ?_ ?_<;>simp only[tt,seval,Tok.row]
      all_goals
       cases ho:aW (Tok.mk 3 x a) with
       |true=>
        have e1:bg l a b=some ((Tok.mk 3 x a),b8 l a):=d7 hraw ho
        rw[e1]
        refine⟨.tu [(av (Tok.mk 3 x a).row,false),([.v (.int .i64 ((b8 l a:Nat):Int))],true),([.v (.bool true)],true)],[],⟨(Tok.mk 3 x a),_,_,rfl,by rfl,fun t' e' h=>by cases h;exact⟨rfl,rfl⟩⟩,am ?_⟩
        simp only[tt,seval,Tok.row]
       |false=>
        have e1:bg l a b=none:=dT hraw ho
        rw[e1]
        refine⟨.tu [(av (Tok.mk 3 x a).row,false),([.v (.int .i64 ((b8 l a:Nat):Int))],true),([.v (.bool false)],true)],[],⟨(Tok.mk 3 x a),_,_,rfl,by rfl,by first|exact fun t' e' h=>by cases h|exact fun _ _ h=>(by cases h)⟩,am ?_⟩
        simp only[tt,seval,Tok.row]
     |false=>
      have hF':=of_decide_eq_false hF
      have hL:jR b.toNat=true:=by rw[hF,Bool.or_false] at hP;exact hP
      have eF:((48:Int)<=(b.toNat:Int)/\(b.toNat:Int)<=57)=False:=eq_false hF'
      have hraw:cC l a b=some (if l4 x=0 then ⟨2,x,a⟩ else ⟨1,bL x,a⟩,b8 l a):=by
       unfold cC
       simp only[ff,hL,if_true,hx]
      simp only[tt,seval,eF]
      refine cZ (mG x hsz) ?_ ?_<;>simp only[tt,seval]
      by_cases hk:l4 x=0
      ·rw[if_pos hk] at hraw
       have ek:(!decide (l4 x=0))=false:=by rw[ap hk];rfl
       have ek':(¬l4 x=0)=False:=eq_false (not_not_intro hk)
       have ek2:(l4 x=0)=True:=eq_true hk
       simp only[tt,seval,ek2]
       refine dDrawn.intro [] (iK [0,2,4,7,9,10,12]) (by kernel_rfl) ?_
       simp only[tt,seval]
       all_goals try simp only[tt,seval,h8]
       all_goals repeat' first|refine cJ ?_ ?_|refine b7 ?_ ?_
       all_goals
        refine cZ (bM (Tok.mk 2 x a) hsz) ?_ ?_<;>simp only[tt,seval,Tok.row]
       all_goals
        cases ho:aW (Tok.mk 2 x a) with
        |true=>
         have e1:bg l a b=some ((Tok.mk 2 x a),b8 l a):=d7 hraw ho
         rw[e1]
         refine⟨.tu [(av (Tok.mk 2 x a).row,false),([.v (.int .i64 ((b8 l a:Nat):Int))],true),([.v (.bool true)],true)],[],⟨(Tok.mk 2 x a),_,_,rfl,by rfl,fun t' e' h=>by cases h;exact⟨rfl,rfl⟩⟩,am ?_⟩
         simp only[tt,seval,Tok.row]
        |false=>
         have e1:bg l a b=none:=dT hraw ho
         rw[e1]
         refine⟨.tu [(av (Tok.mk 2 x a).row,false),([.v (.int .i64 ((b8 l a:Nat):Int))],true),([.v (.bool false)],true)],[],⟨(Tok.mk 2 x a),_,_,rfl,by rfl,by first|exact fun t' e' h=>by cases h|exact fun _ _ h=>(by cases h)⟩,am ?_⟩
         simp only[tt,seval,Tok.row]
      ·rw[if_neg hk] at hraw
       have ek2:(l4 x=0)=False:=eq_false hk
       simp only[tt,seval,ek2]
       refine cZ (pe x hsz) ?_ ?_<;>simp only[tt,seval]
       refine dDrawn.intro [] (iK [0,2,4,7,9,10,12]) (by kernel_rfl) ?_
       simp only[tt,seval]
       all_goals try simp only[tt,seval,h8]
       all_goals repeat' first|refine cJ ?_ ?_|refine b7 ?_ ?_
       all_goals
        refine cZ (bM (Tok.mk 1 (bL x) a) (by show (bL x).size<=_;rw[jj];exact hsz)) ?_ ?_<;>simp only[tt,seval,Tok.row]
       all_goals
        cases ho:aW (Tok.mk 1 (bL x) a) with
        |true=>
         have e1:bg l a b=some ((Tok.mk 1 (bL x) a),b8 l a):=d7 hraw ho
         rw[e1]
         refine⟨.tu [(av (Tok.mk 1 (bL x) a).row,false),([.v (.int .i64 ((b8 l a:Nat):Int))],true),([.v (.bool true)],true)],[],⟨(Tok.mk 1 (bL x) a),_,_,rfl,by rfl,fun t' e' h=>by cases h;exact⟨rfl,rfl⟩⟩,am ?_⟩
         simp only[tt,seval,Tok.row]
        |false=>
         have e1:bg l a b=none:=dT hraw ho
         rw[e1]
         refine⟨.tu [(av (Tok.mk 1 (bL x) a).row,false),([.v (.int .i64 ((b8 l a:Nat):Int))],true),([.v (.bool false)],true)],[],⟨(Tok.mk 1 (bL x) a),_,_,rfl,by rfl,by first|exact fun t' e' h=>by cases h|exact fun _ _ h=>(by cases h)⟩,am ?_⟩
         simp only[tt,seval,Tok.row]
   ·have ej:j=b8 l a:=by rw[<-he,rK (by omega)]
    subst ej
    simp only[tt,seval,h8,hlt]
    have hsz:(b4 l a (b8 l a)).size<=1048576:=by rw[hO];omega
    refine dDrawn.intro [] (iK [0,2,4,6,8,11,12,15]) (by kernel_rfl) ?_
    simp only[tt,seval]
    all_goals try simp only[tt,seval,h8]
    all_goals rw[gw (by kernel_rfl) (show s.size<=9223372036854775807 by omega) (by omega) (by omega) (by omega),Int.toNat_natCast,Int.toNat_natCast,hM hl]
    generalize hx:b4 l a (b8 l a)=x at *
    simp only[tt,seval]
    refine cZ (kZ b.toNat) ?_ ?_<;>simp only[tt,seval]
    cases hF:decide ((48:Int)<=(b.toNat:Int)/\(b.toNat:Int)<=57) with
    |true=>
     have hF':=of_decide_eq_true hF
     have hL:jR b.toNat=false:=by unfold jR;simp only[Bool.or_eq_false_iff,decide_eq_false_iff_not];omega
     have eF:((48:Int)<=(b.toNat:Int)/\(b.toNat:Int)<=57)=True:=eq_true hF'
     have hraw:cC l a b=some (⟨3,x,a⟩,b8 l a):=by
      unfold cC
      simp only[ff,gx,hL,hF,if_true,Bool.false_eq_true,if_false,hx]
     simp only[tt,seval,eF]
     refine dDrawn.intro [] (iK [0,2,4,7,9,10,12]) (by kernel_rfl) ?_
     simp only[tt,seval]
     all_goals try simp only[tt,seval,h8]
     all_goals repeat' first|refine cJ ?_ ?_|refine b7 ?_ ?_
     all_goals
      refine cZ (bM (Tok.mk 3 x a) hsz) ?_ ?_<;>simp only[tt,seval,Tok.row]
     all_goals
      cases ho:aW (Tok.mk 3 x a) with
      |true=>
       have e1:bg l a b=some ((Tok.mk 3 x a),b8 l a):=d7 hraw ho
       rw[e1]
       refine⟨.tu [(av (Tok.mk 3 x a).row,false),([.v (.int .i64 ((b8 l a:Nat):Int))],true),([.v (.bool true)],true)],[],⟨(Tok.mk 3 x a),_,_,rfl,by rfl,fun t' e' h=>by cases h;exact⟨rfl,rfl⟩⟩,am ?_⟩
       simp only[tt,seval,Tok.row]
      |false=>
       have e1:bg l a b=none:=dT hraw ho
       rw[e1]
       refine⟨.tu [(av (Tok.mk 3 x a).row,false),([.v (.int .i64 ((b8 l a:Nat):Int))],true),([.v (.bool false)],true)],[],⟨(Tok.mk 3 x a),_,_,rfl,by rfl,by first|exact fun t' e' h=>by cases h|exact fun _ _ h=>(by cases h)⟩,am ?_⟩
       simp only[tt,seval,Tok.row]
    |false=>
     have hF':=of_decide_eq_false hF
     have hL:jR b.toNat=true:=by rw[hF,Bool.or_false] at hP;exact hP
     have eF:((48:Int)<=(b.toNat:Int)/\(b.toNat:Int)<=57)=False:=eq_false hF'
     have hraw:cC l a b=some (if l4 x=0 then ⟨2,x,a⟩ else ⟨1,bL x,a⟩,b8 l a):=by
      unfold cC
      simp only[ff,hL,if_true,hx]
     simp only[tt,seval,eF]
     refine cZ (mG x hsz) ?_ ?_<;>simp only[tt,seval]
     by_cases hk:l4 x=0
     ·rw[if_pos hk] at hraw
      have ek:(!decide (l4 x=0))=false:=by rw[ap hk];rfl
      have ek':(¬l4 x=0)=False:=eq_false (not_not_intro hk)
      have ek2:(l4 x=0)=True:=eq_true hk
      simp only[tt,seval,ek2]
      refine dDrawn.intro [] (iK [0,2,4,7,9,10,12]) (by kernel_rfl) ?_
      simp only[tt,seval]
      all_goals try simp only[tt,seval,h8]
      all_goals repeat' first|refine cJ ?_ ?_|refine b7 ?_ ?_
      all_goals
       refine cZ (bM (Tok.mk 2 x a) hsz) ?_ ?_<;>simp only[tt,seval,Tok.row]
      all_goals
       cases ho:aW (Tok.mk 2 x a) with
       |true=>
        have e1:bg l a b=some ((Tok.mk 2 x a),b8 l a):=d7 hraw ho
        rw[e1]
        refine⟨.tu [(av (Tok.mk 2 x a).row,false),([.v (.int .i64 ((b8 l a:Nat):Int))],true),([.v (.bool true)],true)],[],⟨(Tok.mk 2 x a),_,_,rfl,by rfl,fun t' e' h=>by cases h;exact⟨rfl,rfl⟩⟩,am ?_⟩
        simp only[tt,seval,Tok.row]
       |false=>
        have e1:bg l a b=none:=dT hraw ho
        rw[e1]
        refine⟨.tu [(av (Tok.mk 2 x a).row,false),([.v (.int .i64 ((b8 l a:Nat):Int))],true),([.v (.bool false)],true)],[],⟨(Tok.mk 2 x a),_,_,rfl,by rfl,by first|exact fun t' e' h=>by cases h|exact fun _ _ h=>(by cases h)⟩,am ?_⟩
        simp only[tt,seval,Tok.row]
     ·rw[if_neg hk] at hraw
      have ek2:(l4 x=0)=False:=eq_false hk
      simp only[tt,seval,ek2]
      refine cZ (pe x hsz) ?_ ?_<;>simp only[tt,seval]
      refine dDrawn.intro [] (iK [0,2,4,7,9,10,12]) (by kernel_rfl) ?_
      simp only[tt,seval]
      all_goals try simp only[tt,seval,h8]
      all_goals repeat' first|refine cJ ?_ ?_|refine b7 ?_ ?_
      all_goals
       refine cZ (bM (Tok.mk 1 (bL x) a) (by show (bL x).size<=_;rw[jj];exact hsz)) ?_ ?_<;>simp only[tt,seval,Tok.row]
      all_goals
       cases ho:aW (Tok.mk 1 (bL x) a) with
       |true=>
        have e1:bg l a b=some ((Tok.mk 1 (bL x) a),b8 l a):=d7 hraw ho
        rw[e1]
        refine⟨.tu [(av (Tok.mk 1 (bL x) a).row,false),([.v (.int .i64 ((b8 l a:Nat):Int))],true),([.v (.bool true)],true)],[],⟨(Tok.mk 1 (bL x) a),_,_,rfl,by rfl,fun t' e' h=>by cases h;exact⟨rfl,rfl⟩⟩,am ?_⟩
        simp only[tt,seval,Tok.row]
       |false=>
        have e1:bg l a b=none:=dT hraw ho
        rw[e1]
        refine⟨.tu [(av (Tok.mk 1 (bL x) a).row,false),([.v (.int .i64 ((b8 l a:Nat):Int))],true),([.v (.bool false)],true)],[],⟨(Tok.mk 1 (bL x) a),_,_,rfl,by rfl,by first|exact fun t' e' h=>by cases h|exact fun _ _ h=>(by cases h)⟩,am ?_⟩
        simp only[tt,seval,Tok.row]
 |false=>
  obtain⟨hL,hF⟩:=Bool.or_eq_false_iff.1 hP
  simp only[tt,seval]
  by_cases hb34:b=34
  ·have d34:decide ((b.toNat:Int)=34)=true:=ap (by rw[hb34];rfl)
   have e39:((b.toNat:Int)=39)=False:=eq_false (by rw[hb34];decide)
   simp only[tt,seval,d34]
   have cq:=nw s a b hs (by rw[<-hl];exact hb)
   rw[<-hl] at cq
   refine cZ (cq) ?_ ?_<;>simp only[tt,seval]
   have hqs:=fun x e=>dB (B:=l) (q:=b) (n:=l.length+1) (i:=a+1) (l:=[]) (x:=x) (e:=e)
   cases hq:dt l b (l.length+1) (a+1) [] with
   |none=>
    have hr:cC l a b=none:=by rw[hb34] at hq ⊢;rw[sY,hq];rfl
    have e1:bg l a b=none:=by unfold bg;rw[hr]
    rw[e1]
    simp only[tt,seval,uZ]
    refine⟨.tu [(av (Tok.mk 0 ⟨#[]⟩ 0).row,false),([.v (.int .i64 0)],true),([.v (.bool false)],true)],[],⟨Tok.mk 0 ⟨#[]⟩ 0,_,_,by first|exact⟨rfl,rfl,fun _ _ h=>by cases h⟩|exact⟨rfl,rfl⟩|rfl⟩,am ?_⟩
    simp only[tt,seval,Tok.row]
    first|done|rfl
   |some y=>
    obtain⟨x,e⟩:=y
    have hr:cC l a b=some (⟨2,⟨x.toArray⟩,a⟩,e):=by rw[hb34] at hq ⊢;rw[sY,hq];rfl
    have hqs:=hqs x e hq
    simp only[tt,seval,uZ,e39]
    refine dDrawn.intro [] (iK [0,2,4,7,9,10,12]) (by kernel_rfl) ?_
    simp only[tt,seval]
    all_goals repeat' first|refine cJ ?_ ?_|refine b7 ?_ ?_
    all_goals
     refine cZ (bM (Tok.mk 2 ⟨x.toArray⟩ a) (by show x.length<=_;simp only[List.length_nil] at hqs;omega)) ?_ ?_<;>simp only[tt,seval,Tok.row]
    all_goals
     cases ho:aW (Tok.mk 2 ⟨x.toArray⟩ a) with
     |true=>
      have e1:bg l a b=some ((Tok.mk 2 ⟨x.toArray⟩ a),e):=d7 hr ho
      rw[e1]
      refine⟨.tu [(av (Tok.mk 2 ⟨x.toArray⟩ a).row,false),([.v (.int .i64 ((e:Nat):Int))],true),([.v (.bool true)],true)],[],⟨(Tok.mk 2 ⟨x.toArray⟩ a),_,_,rfl,by rfl,fun t' e' h=>by cases h;exact⟨rfl,rfl⟩⟩,am ?_⟩
      simp only[tt,seval,Tok.row]
     |false=>
      have e1:bg l a b=none:=dT hr ho
      rw[e1]
      refine⟨.tu [(av (Tok.mk 2 ⟨x.toArray⟩ a).row,false),([.v (.int .i64 ((e:Nat):Int))],true),([.v (.bool false)],true)],[],⟨(Tok.mk 2 ⟨x.toArray⟩ a),_,_,rfl,by rfl,by first|exact fun t' e' h=>by cases h|exact fun _ _ h=>(by cases h)⟩,am ?_⟩
      simp only[tt,seval,Tok.row]
  ·have d34:decide ((b.toNat:Int)=34)=false:=ao fun h=>hb34 (UInt8.toNat_inj.1 (by show b.toNat=34;omega))
   by_cases hb39:b=39
   ·have d39:decide ((b.toNat:Int)=39)=true:=ap (by rw[hb39];rfl)
    have e39:((b.toNat:Int)=39)=True:=eq_true (by rw[hb39];rfl)
    simp only[tt,seval,d34,d39]
    have cq:=nw s a b hs (by rw[<-hl];exact hb)
    rw[<-hl] at cq
    refine cZ (cq) ?_ ?_<;>simp only[tt,seval]
    have hqs:=fun x e=>dB (B:=l) (q:=b) (n:=l.length+1) (i:=a+1) (l:=[]) (x:=x) (e:=e)
    cases hq:dt l b (l.length+1) (a+1) [] with
    |none=>
     have hr:cC l a b=none:=by rw[hb39] at hq ⊢;rw[sZ,hq];rfl
     have e1:bg l a b=none:=by unfold bg;rw[hr]
     rw[e1]
     simp only[tt,seval,uZ]
     refine⟨.tu [(av (Tok.mk 0 ⟨#[]⟩ 0).row,false),([.v (.int .i64 0)],true),([.v (.bool false)],true)],[],⟨Tok.mk 0 ⟨#[]⟩ 0,_,_,by first|exact⟨rfl,rfl,fun _ _ h=>by cases h⟩|exact⟨rfl,rfl⟩|rfl⟩,am ?_⟩
     simp only[tt,seval,Tok.row]
     first|done|rfl
    |some y=>
     obtain⟨x,e⟩:=y
     have hr:cC l a b=some (⟨4,⟨x.toArray⟩,a⟩,e):=by rw[hb39] at hq ⊢;rw[sZ,hq];rfl
     have hqs:=hqs x e hq
     simp only[tt,seval,uZ,e39]
     refine dDrawn.intro [] (iK [0,2,4,7,9,10,12]) (by kernel_rfl) ?_
     simp only[tt,seval]
     all_goals repeat' first|refine cJ ?_ ?_|refine b7 ?_ ?_
     all_goals
      refine cZ (bM (Tok.mk 4 ⟨x.toArray⟩ a) (by show x.length<=_;simp only[List.length_nil] at hqs;omega)) ?_ ?_<;>simp only[tt,seval,Tok.row]
     all_goals
      cases ho:aW (Tok.mk 4 ⟨x.toArray⟩ a) with
      |true=>
       have e1:bg l a b=some ((Tok.mk 4 ⟨x.toArray⟩ a),e):=d7 hr ho
       rw[e1]
       refine⟨.tu [(av (Tok.mk 4 ⟨x.toArray⟩ a).row,false),([.v (.int .i64 ((e:Nat):Int))],true),([.v (.bool true)],true)],[],⟨(Tok.mk 4 ⟨x.toArray⟩ a),_,_,rfl,by rfl,fun t' e' h=>by cases h;exact⟨rfl,rfl⟩⟩,am ?_⟩
       simp only[tt,seval,Tok.row]
      |false=>
       have e1:bg l a b=none:=dT hr ho
       rw[e1]
       refine⟨.tu [(av (Tok.mk 4 ⟨x.toArray⟩ a).row,false),([.v (.int .i64 ((e:Nat):Int))],true),([.v (.bool false)],true)],[],⟨(Tok.mk 4 ⟨x.toArray⟩ a),_,_,rfl,by rfl,by first|exact fun t' e' h=>by cases h|exact fun _ _ h=>(by cases h)⟩,am ?_⟩
       simp only[tt,seval,Tok.row]
   ·have d39:decide ((b.toNat:Int)=39)=false:=ao fun h=>hb39 (UInt8.toNat_inj.1 (by show b.toNat=39;omega))
    have hraw:cC l a b=some (⟨5,b4 l a (de l a),a⟩,de l a):=by
     unfold cC
     simp only[ff,gx,hL,hF,hb34,hb39,Bool.false_eq_true,if_false]
    simp only[tt,seval,d34,d39]
    refine cZ (wV) ?_ ?_<;>simp only[tt,seval]
    refine dLoop.intro (fun f' L p=>∃(i:Nat) (t:ByteArray),f' 24=vi i/\i<=16/\BestI (signs.take i) (l.drop a) t/\L=[(7,.str [.v (.int .i64 5),.v (.string t),.v (.int .i64 a)]),(4,.str [.v (.int .i64 0),.v (.string ByteArray.empty),.v (.int .i64 0)])]/\p=none) (fun f' _ _=>(16-aU (f' 24)).toNat) [(7,.str [.v (.int .i64 5),.v (.string ByteArray.empty),.v (.int .i64 a)]),(4,.str [.v (.int .i64 0),.v (.string ByteArray.empty),.v (.int .i64 0)])] none ⟨ac rfl (ac rfl (ak _)),al _,?_⟩ ?_
    ·simp only[tt,seval]
     exact⟨0,ByteArray.empty,rfl,by omega,BestI.nil _,rfl⟩
    ·rintro g L p ⟨i,t,h24,hi,hbest,rfl,rfl⟩
     simp only[tt,seval] at h24
     have ht20:t.size<=2:=by
      rcases hbest.got with rfl|⟨h1,_⟩
      ·exact Nat.zero_le _
      ·exact (jF _ (List.mem_of_mem_take h1)).2
     have i16:((16:Nat):Int)=16:=rfl
     simp only[tt,seval,h24]
     by_cases hlt:i<16
     ·have hls:i<signs.length:=hlt
      have c1:((i:Int)<16)=True:=eq_true (by omega)
      have hst:signs.take (i+1)=signs.take i++[signs[i]]:=List.take_succ_eq_append_getElem hls
      have hx:signs[i]?=some signs[i]:=ay hls
      have hsz:=jF _ (aI hls)
      simp only[tt,seval,c1]
      refine⟨by omega,_,aF dM hx,ji _ _,?_⟩
      generalize signs[i]=sg at *
      simp only[tt,seval,srow]
      rw[nu (by kernel_rfl) (show s.size<=9223372036854775807 by omega) (by omega) (by omega),Int.toNat_natCast,ta hl]
      simp only[tt,seval]
      have cp:=kJ ⟨(l.drop a).toArray⟩ sg
      have epx:Lib.hasPrefix (⟨(l.drop a).toArray⟩:ByteArray).data.toList sg.data.toList=sg.data.toList.isPrefixOf (l.drop a):=rfl
      rw[epx] at cp
      refine cZ (cp) ?_ ?_<;>simp only[tt,seval]
      cases hpx:sg.data.toList.isPrefixOf (l.drop a) with
      |true=>
       have hpx':=List.isPrefixOf_iff_prefix.1 hpx
       simp only[tt,seval,h24]
       refine fun _ _=>aa (fun h=>?_) (fun h=>?_)
       ·rw[dk i (by omega)]
        exact⟨[(7,.str [.v (.int .i64 5),.v (.string sg),.v (.int .i64 a)]),(4,.str [.v (.int .i64 0),.v (.string ByteArray.empty),.v (.int .i64 0)])],none,ac rfl (ac rfl (ak _)),al _,⟨i+1,sg,rfl,by omega,by rw[hst];exact hbest.yes hpx' (by omega),rfl,rfl⟩,by simp only[aU];omega⟩
       ·rw[dk i (by omega)]
        exact⟨[(7,.str [.v (.int .i64 5),.v (.string t),.v (.int .i64 a)]),(4,.str [.v (.int .i64 0),.v (.string ByteArray.empty),.v (.int .i64 0)])],none,ac rfl (ac rfl (ak _)),al _,⟨i+1,t,rfl,by omega,by rw[hst];exact hbest.no fun _=>by omega,rfl,rfl⟩,by simp only[aU];omega⟩
      |false=>
       have hpx':¬sg.data.toList <+: l.drop a:=fun h=>by rw[List.isPrefixOf_iff_prefix.2 h] at hpx;cases hpx
       simp only[tt,seval,h24]
       rw[dk i (by omega)]
       exact⟨[(7,.str [.v (.int .i64 5),.v (.string t),.v (.int .i64 a)]),(4,.str [.v (.int .i64 0),.v (.string ByteArray.empty),.v (.int .i64 0)])],none,ac rfl (ac rfl (ak _)),al _,⟨i+1,t,rfl,by omega,by rw[hst];exact hbest.no fun h=>absurd h hpx',rfl,rfl⟩,by simp only[aU];omega⟩
     ·have hi16:i=16:=by omega
      subst hi16
      have c1:(((16:Nat):Int)<16)=False:=eq_false (by omega)
      have hbest:BestI signs (l.drop a) t:=hbest
      simp only[tt,seval]
      refine fun _=>?_
      rw[ax (n:=(a:Int)+t.size) (by omega) (by omega)]
      refine dDrawn.intro [] (iK [0,2,4,7,9,10,12]) (by kernel_rfl) ?_
      simp only[tt,seval]
      all_goals try simp only[tt,seval,h24]
      all_goals repeat' first|refine cJ ?_ ?_|refine b7 ?_ ?_
      all_goals
       refine cZ (bM (Tok.mk 5 t a) (by show t.size<=_;omega)) ?_ ?_<;>simp only[tt,seval,Tok.row]
      all_goals
       rcases yL ha hbest with⟨ht,hte⟩|⟨ht,hte⟩
       ·cases ho:aW (Tok.mk 5 t a) with
        |true=>
         have e1:bg l a b=some (Tok.mk 5 t a,de l a):=d7 (by rw[ht];exact hraw) ho
         rw[e1]
         refine⟨.tu [(av (Tok.mk 5 t a).row,false),([.v (.int .i64 (de l a:Nat))],true),([.v (.bool true)],true)],[],⟨Tok.mk 5 t a,_,_,rfl,by rfl,fun t' e' h=>by cases h;exact⟨rfl,rfl⟩⟩,am ?_⟩
         simp only[tt,seval,Tok.row]
         omega
        |false=>
         have e1:bg l a b=none:=dT hraw (by rw[<-ht];exact ho)
         rw[e1]
         refine⟨.tu [(av (Tok.mk 5 t a).row,false),([.v (.int .i64 ((a:Int)+t.size))],true),([.v (.bool false)],true)],[],⟨Tok.mk 5 t a,_,_,rfl,by rfl,by first|exact fun t' e' h=>by cases h|exact fun _ _ h=>(by cases h)⟩,am ?_⟩
         simp only[tt,seval,Tok.row]
       ·have ho:aW (Tok.mk 5 t a)=false:=ht
        have e1:bg l a b=none:=dT hraw hte
        rw[e1]
        refine⟨.tu [(av (Tok.mk 5 t a).row,false),([.v (.int .i64 ((a:Int)+t.size))],true),([.v (.bool false)],true)],[],⟨Tok.mk 5 t a,_,_,rfl,by rfl,by first|exact fun t' e' h=>by cases h|exact fun _ _ h=>(by cases h)⟩,am ?_⟩
        simp only[tt,seval,Tok.row,ho]
set_option maxHeartbeats 4000000 in
theorem B5 (s:ByteArray) (hs:s.size<=1048576):Cl Tryz.prog 123 [vs s] [] fun r _=>r = .tu [([.sl (qX (iE s)).1.length ((qX (iE s)).1.flatMap Tok.row) none],true),([.v (.int .i64 (qX (iE s)).2)],true)]:=by
 obtain⟨l,hl⟩:∃l,l=s.data.toList:=⟨_,rfl⟩
 have hll:l.length=s.size:=by rw[hl];exact aG s
 obtain⟨rr,hrr⟩:=pf (B:=l) (l.length+1) 0 [] (by omega) (by omega)
 refine ae ab false Tryz.func123 rfl (by kernel_rfl) ?_
 simp only[Tryz.f123,tt,seval]
 refine fun _=>aa (fun hg=>?_) (fun hg=>?_)
 ·have e:iE s = .inr 2000:=by unfold iE;rw[if_pos (by omega)]
  rw[e]
  refine⟨.tu [([.sl 0 [] none],true),([.v (.int .i64 2000)],true)],[],rfl,am ?_⟩
  simp only[tt,seval]
 have e:iE s=rr:=by unfold iE;rw[if_neg (by omega),<-hl,hrr];rfl
 rw[e]
 refine dLoop.gh [.ren 14 42] ⟨by decide,by decide,?_⟩
 refine dLoop0.intro (fun f' L p=>∃(i n:Nat) (m:List Tok),f' 5=vi i/\f' 4 = .c (.s 42 m.length)/\i<=s.size/\m.length<=i/\qO l n i m=some rr/\l.length+1<=n+i/\L=[(42,.arr 76 m.length (m.flatMap Tok.row) none)]/\p=none) (fun f' _ _=>(s.size-aU (f' 5)).toNat) [(42,.arr 76 0 [] none)] none ⟨ac rfl (ak _),al _,?_⟩ ?_
 ·simp only[tt,seval]
  exact⟨0,l.length+1,[],rfl,rfl,by omega,by simp,hrr,by omega,rfl⟩
 ·rintro g L p ⟨i,n,m,h5,h4,hi,hml,he,hn,rfl,rfl⟩
  simp only[tt,seval] at h5 h4
  cases n with
  |zero=>exact absurd hn (by omega)
  |succ n=>
  rw[qO] at he
  obtain⟨q,okb,hp,hiq,hqs⟩:=eV (B:=l) (l.length+1) i (by omega) (by omega)
  rw[hp] at he
  simp only at he
  have cp:=DW s i hs hi
  rw[<-hl,hp] at cp
  simp only[tt,seval,h5]
  refine cZ (cp) ?_ ?_<;>simp only[tt,seval,h4,EC]
  cases okb with
  |false=>
   rw[if_pos rfl] at he
   injection he with he;subst he
   simp only[tt,seval]
   refine⟨.tu [([.sl 0 [] none],true),([.v (.int .i64 (q:Nat))],true)],[],rfl,am ?_⟩
   simp only[tt,seval]
  |true=>
   rw[if_neg (by simp)] at he
   simp only[tt,seval]
   refine fun _=>?_
   by_cases hqe:s.size<=q
   ·have hq1:((q:Int)=(s.size:Int))=True:=eq_true (by omega)
    have hq2:(q=s.size)=True:=eq_true (by omega)
    rw[List.getElem?_eq_none_iff.2 (by omega)] at he
    simp only at he
    injection he with he;subst he
    simp only[tt,seval,hq1]
    refine⟨.tu [([.sl m.length (m.flatMap Tok.row) none],true),([.v (.int .i64 (-1))],true)],[],rfl,am ?_⟩
    simp only[tt,seval]
   ·have hq1:((q:Int)=(s.size:Int))=False:=eq_false (by omega)
    have hq2:(q=s.size)=False:=eq_false (by omega)
    have hql:q<l.length:=by omega
    have hb:l[q]?=some l[q]:=ay hql
    rw[hb] at he
    simp only at he
    have co:=v7 s q l[q] hs (by rw[<-hl];exact hb)
    rw[<-hl] at co
    have osp:=fun t e=>jw (e:=e) (t:=t) hb
    generalize l[q]=b at *
    simp only[tt,seval,hq1]
    cases ho:bg l q b with
    |none=>
     rw[ho] at he co
     simp only at he
     injection he with he;subst he
     refine hJ (co) ?_ ?_ ?_
     ·decide
     ·simp only[tt,seval]
     rintro r ⟨t,e2,ok2,rfl,rfl,_⟩
     simp only[tt,seval,h4,Tok.row,Option.isSome_none]
     refine⟨.tu [([.sl 0 [] none],true),([.v (.int .i64 (q:Nat))],true)],[],rfl,am ?_⟩
     simp only[tt,seval]
    |some y=>
     obtain⟨t,e⟩:=y
     rw[ho] at he co
     simp only at he
     obtain⟨he1,he2,_⟩:=osp t e ho
     refine hJ (co) ?_ ?_ ?_
     ·decide
     ·simp only[tt,seval]
     rintro r ⟨t',e2,ok2,rfl,rfl,ht⟩
     simp only[tt,seval,h4,Tok.row]
     obtain⟨rfl,rfl⟩:=ht t e rfl
     refine⟨by kernel_rfl,⟨by simp only[maxLen];omega,by omega⟩,?_⟩
     refine⟨[(42,.arr 76 (m++[t']).length ((m++[t']).flatMap Tok.row) none)],none,by simp only[List.flatMap_append,aA,List.flatMap_cons,List.flatMap_nil,List.append_nil,Tok.row];exact ac rfl (ak _),al _,⟨e,n,m++[t'],rfl,by simp,by omega,by simp;omega,he,by omega,rfl,rfl⟩,by simp only[aU];omega⟩
end Go.Proofs.YteffjmaadkkmeaaGreatDoor
