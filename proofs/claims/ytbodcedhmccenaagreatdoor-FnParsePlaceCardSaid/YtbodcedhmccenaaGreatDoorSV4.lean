/-
  Draws of texts.
  Conditions: none.
-/
import Derived.Test.YtbodcedhmccenaaGreatDoorSV2
import Derived.Test.YtbodcedhmccenaaGreatDoorSG
set_option linter.unusedVariables false
set_option linter.unusedSimpArgs false
set_option linter.unusedSectionVars false
set_option maxRecDepth 8000
namespace Go.Proofs.YtbodcedhmccenaaGreatDoor
open Go Go.Dv
open Go.Vc (D d5 d6 cM bo)
theorem yE (t:Tok):(gg t).size<=300:=by
 cases h:bg t with
 |true=>exact yp (yu h)
 |false=>unfold gg;rw[if_pos h];exact Nat.zero_le _
set_option maxHeartbeats 2000000 in
theorem zS (l:List Tok) (hl:l.length<=100000) (hT:∀t∈l,t.text.size<=100):Cl Tryz.prog 102 [.c (.sl l.length (l.flatMap Tok.row) none),vb true] [] fun r _=>∃s:ByteArray,r=vs s/\s.size<=2000:=by
 refine ah ab false Tryz.func102 rfl (by kernel_rfl) ?_
 simp only[Tryz.f102,tt,seval]
 refine dLoop.gh [.ren 7 46] ⟨by decide,by decide,?_⟩
 refine dLoop0.intro (fun f L p=>∃(i:Nat) (bs:List UInt8),f 6=vi i/\f 5 = .c (.s 46 bs.length)/\i<=l.length/\bs.length<=i*301/\L=[(46,.arr 5 bs.length (aX bs) none)]/\p=none) (fun f _ _=>(l.length-bq (f 6)).toNat) [(46,.arr 5 0 (aX []) none)] none ⟨ac rfl (al _),an _,?_⟩ ?_
 ·simp only[tt,seval]
  exact⟨0,[],rfl,rfl,by omega,by simp,rfl⟩
 ·rintro g L p ⟨i,bs,h6,h5,hi,hbs,rfl,rfl⟩
  simp only[tt,seval] at h6 h5
  simp only[tt,seval,h6,h5,Int.ofNat_lt]
  refine fun _=>aa (fun hlt=>?_) (fun hge=>?_)
  ·have htx1:=hT _ (aK hlt)
   have htx:l[i].text.size<=1048576:=by omega
   have htk:=yE l[i]
   refine⟨by omega,by omega,_,aE cn (az hlt),Tok.ne _ _,?_⟩
   simp only[seval,Tok.tk]
   refine cZ (cG l[i] htx) ?_ ?_<;>simp only[tt,seval,Tok.row]
   refine aa (fun hbad=>?_) (fun hgood=>?_)
   ·exact⟨_,_,⟨⟨#[]⟩,rfl,by show 0<=2000;omega⟩,ak rfl⟩
   ·try simp only[tt,seval,h6,h5]
    refine dDrawn.intro [] (iO [0,2,4,6,8,10,12,14,16,18,20,22,24,26,29,30,32]) (by kernel_rfl) ?_
    simp only[tt,seval]
    simp only[tt,seval,h6]
    by_cases hi0:(0:Int)<i
    ·simp only[tt,seval,av hi0,h6,h5]
     refine⟨by kernel_rfl,⟨by simp only[maxLen];omega,by omega⟩,?_⟩
     rw[ry]
     refine⟨by omega,by omega,_,aE cn (az hlt),Tok.ne _ _,?_⟩
     simp only[seval,Tok.tk]
     refine cZ (gi l[i] htx) ?_ ?_<;>simp only[tt,seval,h6,Tok.row]
     refine⟨by kernel_rfl,by rw[eR,aD,Nat.mul_one],⟨by simp only[maxLen];omega,by omega⟩,?_⟩
     have e:((bs++[32])++(gg l[i]).data.toList).length=bs.length+1+(gg l[i]).size:=by rw[aB,aD];simp
     rw[eS,eS,<-e,aq (n:=(i:Int)+1) (by omega) (by omega)]
     exact⟨_,none,ac rfl (al _),an _,⟨i+1,_,rfl,rfl,by omega,by rw[e];omega,rfl,rfl⟩,by simp only[bq];omega⟩
    ·simp only[tt,seval,au hi0,h6,h5]
     refine⟨by omega,by omega,_,aE cn (az hlt),Tok.ne _ _,?_⟩
     simp only[seval,Tok.tk]
     refine cZ (gi l[i] htx) ?_ ?_<;>simp only[tt,seval,h6,Tok.row]
     refine⟨by kernel_rfl,by rw[eR,aD,Nat.mul_one],⟨by simp only[maxLen];omega,by omega⟩,?_⟩
     have e:(bs++(gg l[i]).data.toList).length=bs.length+(gg l[i]).size:=by rw[aB,aD]
     rw[eS,<-e,aq (n:=(i:Int)+1) (by omega) (by omega)]
     exact⟨_,none,ac rfl (al _),an _,⟨i+1,_,rfl,rfl,by omega,by rw[e];omega,rfl,rfl⟩,by simp only[bq];omega⟩
  ·refine fun _=>aa (fun h2=>?_) (fun h2=>?_)
   ·exact⟨_,_,⟨⟨#[]⟩,rfl,by show 0<=2000;omega⟩,ak rfl⟩
   ·try simp only[tt,seval]
    refine⟨by kernel_rfl,by simp only[maxLen];omega,bs,rfl,rfl,?_⟩
    simp only[tt,seval]
    exact⟨_,_,⟨⟨bs.toArray⟩,rfl,by show bs.toArray.size<=2000;simp;omega⟩,ak rfl⟩
theorem Dp (l:List Tok) (hl:l.length<=100000) (hT:∀t∈l,t.text.size<=100):Cl Tryz.prog 134 [.c (.sl l.length (l.flatMap Tok.row) none)] [] fun r _=>∃s:ByteArray,r=vs s/\s.size<=2000:=by
 refine ah ab false Tryz.func134 rfl (by kernel_rfl) ?_
 simp only[Tryz.f134,tt,seval]
 refine eb (zS l hl hT) ?_ ?_ ?_
 ·decide
 ·simp only[tt,seval]
 rintro r ⟨s,rfl,hs⟩
 simp only[tt,seval]
 exact⟨_,_,⟨s,rfl,hs⟩,ak rfl⟩
theorem ny (l:List Tok):(fV l).size<=2000:=by
 unfold fV
 split
 ·split
  ·exact Nat.zero_le _
  ·show (List.toArray _).size<=2000
   simp;omega
 ·exact Nat.zero_le _
theorem oU (l:List Tok):∀k,k<=l.length->(gy l k).length<=k*301
 |0,_=>by simp [gy]
 |k+1,h=>by
  have:=oU l k (by omega)
  have h2:=yE l[k]
  have h3:(jn l k).length<=301:=by
   rw[Dr l (by omega),aB,aD]
   split
   ·simp only[List.length_singleton];omega
   ·simp only[List.length_nil];omega
  rw[eT,aB]
  omega
theorem qR:∀w∈([⟨#[40]⟩,⟨#[41]⟩,⟨#[32]⟩,⟨#[39]⟩,⟨#[110,111,116,32]⟩,⟨#[45,45,10]⟩,⟨#[47,42,120,42,47]⟩,⟨#[49]⟩,⟨#[33]⟩,⟨#[44]⟩,⟨#[61]⟩]:List ByteArray),w.size<=7:=by decide
def F6 (r:S):Prop:=∃s:ByteArray,r=vs s/\s.size<=5000
set_option maxHeartbeats 4000000 in
theorem Cb (c:Cur) (h0:0<=c.i) (l:List Tok) (hl:l.length<=100000) (hT:∀t∈l,t.text.size<=100):Cl Tryz.prog 63 [.c (.p 9000 0),.c (.sl l.length (l.flatMap Tok.row) none)] [c.cs] (sj F6):=by
 have c0:=uc l (fun t ht=>Nat.le_trans (hT t ht) (by decide)) (Nat.le_trans (oU l _ (Nat.le_refl _)) (by omega))
 have hs0:=ny l
 generalize fV l=s0 at *
 refine ah ab false Tryz.func63 rfl (by kernel_rfl) ?_
 simp only[Tryz.f63,tt,seval]
 refine cZ (c0) ?_ ?_<;>simp only[tt,seval,Cur.cs]
 refine CallQ.intro (aY c h0 3) ?_ ?_ ?_
 ·decide
 ·simp only[tt,seval,Cur.cs]
 rintro r os ⟨c1,⟨b,rfl⟩,rfl,i1⟩ hos
 simp only[tt,seval,Cur.cs]
 refine aa (fun _=>?_) (fun _=>?_)
 ·skip
  refine eb (Dp l hl hT) ?_ ?_ ?_
  ·decide
  ·simp only[tt,seval]
  rintro r ⟨s,rfl,hs⟩
  simp only[tt,seval]
  intro hln
  rw[aq (n:=(s.size:Int)+1) (by omega) (by omega)]
  refine CallQ.intro (aM c1 i1 ((s.size:Int)+1)) ?_ ?_ ?_
  ·decide
  ·simp only[tt,seval,Cur.cs]
  rintro r os ⟨y,c2,rfl,rfl,hy,i2⟩ hos
  simp only[tt,seval,Cur.cs]
  have hy2:=hy.2 (by omega)
  have hok:Go.Vc.okV (.string s):=show s.size<=9223372036854775807 by omega
  have hx1:(s.extract 0 y.toNat).size<=2000:=by simp only[ByteArray.size_extract];omega
  have hx2:(s.extract y.toNat s.size).size<=2000:=by simp only[ByteArray.size_extract];omega
  refine CallQ.intro (aM c2 i2 12) ?_ ?_ ?_
  ·decide
  ·simp only[tt,seval,Cur.cs]
  rintro r os ⟨z,c3,rfl,rfl,_,i3⟩ hos
  simp only[tt,seval,Cur.cs]
  refine aa (fun _=>?_) (fun _=>?_)
  ·skip
   refine dDrawn.intro [27] (iO [0,2,4,6,14,16,18,9,11,12,20,22]) (by kernel_rfl) ?_
   simp only[tt,seval]
   all_goals try simp only[tt,seval,bM,rQ (P:=Tryz.prog) (t:=9) (u:=s) (b:=y) (by kernel_rfl) hok hy.1 (by omega),jP (P:=Tryz.prog) (t:=9) (u:=s) (a:=y) (by kernel_rfl) hok hy.1 (by omega)]
   all_goals repeat' first|refine cj ?_ ?_|refine aO ?_ ?_
   all_goals
    refine dJ [26] ?_
    simp only[tt,seval]
    refine Call1.intro (dC c3 i3 [⟨#[40]⟩,⟨#[41]⟩,⟨#[32]⟩,⟨#[39]⟩,⟨#[110,111,116,32]⟩,⟨#[45,45,10]⟩,⟨#[47,42,120,42,47]⟩,⟨#[49]⟩,⟨#[33]⟩,⟨#[44]⟩,⟨#[61]⟩] (by decide)) ?_ ?_ ?_
    ·decide
    ·simp only[tt,seval,Cur.cs,srow]
     decide
    rintro r os ⟨c4,⟨w,hw,rfl⟩,rfl,i4⟩ hos
    simp only[tt,seval,Cur.cs,srow]
   all_goals repeat' first|refine gE ?_ ?_|refine cK ?_ ?_|refine cL ?_ ?_
   all_goals
    have hw2:=qR w hw
   all_goals repeat' first|refine gE ?_ ?_|refine cK ?_ ?_|refine cL ?_ ?_
   all_goals
    rw[g6 (by (try simp only[ByteArray.size_append]);omega)]
    simp only[tt,seval]
   all_goals repeat' first|refine gE ?_ ?_|refine cK ?_ ?_|refine cL ?_ ?_
   all_goals
    rw[g6 (by (try simp only[ByteArray.size_append]);omega)]
    simp only[tt,seval]
   all_goals
    exact⟨_,_,⟨c4,⟨_,rfl,by simp only[ByteArray.size_append];omega⟩,rfl,i4⟩,fT rfl rfl⟩
  ·refine aa (fun _=>?_) (fun _=>?_)
   ·try simp only[tt,seval,rQ (P:=Tryz.prog) (t:=9) (u:=s) (b:=y) (by kernel_rfl) hok hy.1 (by omega)]
    exact⟨_,_,⟨c3,⟨_,rfl,by omega⟩,rfl,i3⟩,fT rfl rfl⟩
   ·refine aa (fun _=>?_) (fun _=>?_)
    ·skip
     refine cZ (pz s (by omega)) ?_ ?_<;>simp only[tt,seval]
     exact⟨_,_,⟨c3,⟨_,rfl,by rw[fJ];omega⟩,rfl,i3⟩,fT rfl rfl⟩
    ·exact⟨_,_,⟨c3,⟨_,rfl,by omega⟩,rfl,i3⟩,fT rfl rfl⟩
 ·try simp only[tt,seval,Cur.cs,bM,Tok.row]
  obtain⟨s,rfl⟩:∃s,s=s0:=⟨_,rfl⟩
  have hs:=hs0
  intro hln
  rw[aq (n:=(s.size:Int)+1) (by omega) (by omega)]
  refine CallQ.intro (aM c1 i1 ((s.size:Int)+1)) ?_ ?_ ?_
  ·decide
  ·simp only[tt,seval,Cur.cs]
  rintro r os ⟨y,c2,rfl,rfl,hy,i2⟩ hos
  simp only[tt,seval,Cur.cs]
  have hy2:=hy.2 (by omega)
  have hok:Go.Vc.okV (.string s):=show s.size<=9223372036854775807 by omega
  have hx1:(s.extract 0 y.toNat).size<=2000:=by simp only[ByteArray.size_extract];omega
  have hx2:(s.extract y.toNat s.size).size<=2000:=by simp only[ByteArray.size_extract];omega
  refine CallQ.intro (aM c2 i2 12) ?_ ?_ ?_
  ·decide
  ·simp only[tt,seval,Cur.cs]
  rintro r os ⟨z,c3,rfl,rfl,_,i3⟩ hos
  simp only[tt,seval,Cur.cs]
  refine aa (fun _=>?_) (fun _=>?_)
  ·skip
   refine dDrawn.intro [27] (iO [0,2,4,6,14,16,18,9,11,12,20,22]) (by kernel_rfl) ?_
   simp only[tt,seval]
   all_goals try simp only[tt,seval,bM,rQ (P:=Tryz.prog) (t:=9) (u:=s) (b:=y) (by kernel_rfl) hok hy.1 (by omega),jP (P:=Tryz.prog) (t:=9) (u:=s) (a:=y) (by kernel_rfl) hok hy.1 (by omega)]
   all_goals repeat' first|refine cj ?_ ?_|refine aO ?_ ?_
   all_goals
    refine dJ [26] ?_
    simp only[tt,seval]
    refine Call1.intro (dC c3 i3 [⟨#[40]⟩,⟨#[41]⟩,⟨#[32]⟩,⟨#[39]⟩,⟨#[110,111,116,32]⟩,⟨#[45,45,10]⟩,⟨#[47,42,120,42,47]⟩,⟨#[49]⟩,⟨#[33]⟩,⟨#[44]⟩,⟨#[61]⟩] (by decide)) ?_ ?_ ?_
    ·decide
    ·simp only[tt,seval,Cur.cs,srow]
     decide
    rintro r os ⟨c4,⟨w,hw,rfl⟩,rfl,i4⟩ hos
    simp only[tt,seval,Cur.cs,srow]
   all_goals repeat' first|refine gE ?_ ?_|refine cK ?_ ?_|refine cL ?_ ?_
   all_goals
    have hw2:=qR w hw
   all_goals repeat' first|refine gE ?_ ?_|refine cK ?_ ?_|refine cL ?_ ?_
   all_goals
    rw[g6 (by (try simp only[ByteArray.size_append]);omega)]
    simp only[tt,seval]
   all_goals repeat' first|refine gE ?_ ?_|refine cK ?_ ?_|refine cL ?_ ?_
   all_goals
    rw[g6 (by (try simp only[ByteArray.size_append]);omega)]
    simp only[tt,seval]
   all_goals
    exact⟨_,_,⟨c4,⟨_,rfl,by simp only[ByteArray.size_append];omega⟩,rfl,i4⟩,fT rfl rfl⟩
  ·refine aa (fun _=>?_) (fun _=>?_)
   ·try simp only[tt,seval,rQ (P:=Tryz.prog) (t:=9) (u:=s) (b:=y) (by kernel_rfl) hok hy.1 (by omega)]
    exact⟨_,_,⟨c3,⟨_,rfl,by omega⟩,rfl,i3⟩,fT rfl rfl⟩
   ·refine aa (fun _=>?_) (fun _=>?_)
    ·skip
     refine cZ (pz s (by omega)) ?_ ?_<;>simp only[tt,seval]
     exact⟨_,_,⟨c3,⟨_,rfl,by rw[fJ];omega⟩,rfl,i3⟩,fT rfl rfl⟩
    ·exact⟨_,_,⟨c3,⟨_,rfl,by omega⟩,rfl,i3⟩,fT rfl rfl⟩
end Go.Proofs.YtbodcedhmccenaaGreatDoor
