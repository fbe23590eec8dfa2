/-
  Draws of texts.
  Conditions: none.
-/
import Derived.Test.YtbodcedhmccenaaGreatDoorPFV2
import Derived.Test.YtbodcedhmccenaaGreatDoorPFG
set_option linter.unusedVariables false
set_option linter.unusedSimpArgs false
set_option linter.unusedSectionVars false
set_option maxRecDepth 8000
namespace Go.Proofs.YtbodcedhmccenaaGreatDoor
open Go Go.Dv
open Go.Vc (D dg dh cX bk)
theorem Ap (t:Tok):(bU t).size<=300:=by
 cases h:aJ t with
 |true=>exact A4 (A7 h)
 |false=>unfold bU;rw[if_pos h];exact Nat.zero_le _
set_option maxHeartbeats 2000000 in
theorem BB (l:List Tok) (hl:l.length<=100000) (hT:∀t∈l,t.text.size<=100):Cl Tryz.prog 102 [.c (.sl l.length (l.flatMap Tok.row) none),vb true] [] fun r _=>∃s:ByteArray,r=vs s/\s.size<=2000:=by
 refine ai ac false Tryz.func102 rfl ae ?_
 simp only[Tryz.f102,tt,seval]
 refine dLoop.gh [.ren 7 46] ⟨ah,ah,?_⟩
 refine dLoop0.intro (fun f L p=>∃(i:Nat) (bs:List UInt8),f 6=vi i/\f 5 = .c (.s 46 bs.length)/\i<=l.length/\bs.length<=i*301/\L=[(46,.arr 5 bs.length (aR bs) none)]/\p=none) (fun f _ _=>(l.length-eH (f 6)).toNat) [(46,.arr 5 0 (aR []) none)] none ⟨ak rfl (ao _),aq _,?_⟩ ?_
 ·simp only[tt,seval]
  exact⟨0,[],rfl,rfl,aa,by simp,rfl⟩
 ·rintro g L p ⟨i,bs,h6,h5,hi,hbs,rfl,rfl⟩
  simp only[tt,seval] at h6 h5
  simp only[tt,seval,h6,h5,Int.ofNat_lt]
  refine fun _=>ab (fun hlt=>?_) (fun hge=>?_)
  ·have htx1:=hT _ (aO hlt)
   have htx:l[i].text.size<=1048576:=by omega
   have htk:=Ap l[i]
   refine⟨aa,aa,_,aH cY (aD hlt),Tok.ne _ _,?_⟩
   simp only[seval,Tok.tk]
   refine cZ (cR l[i] htx) ?_ ?_<;>simp only[tt,seval,Tok.row]
   refine ab (fun hbad=>?_) (fun hgood=>?_)
   ·exact⟨_,_,⟨⟨#[]⟩,rfl,by show 0<=2000;omega⟩,ap rfl⟩
   ·try simp only[tt,seval,h6,h5]
    refine dDrawn.intro [] (j3 [0,2,4,6,8,10,12,14,16,18,20,22,24,26,29,30,32]) ae ?_
    simp only[tt,seval]
    simp only[tt,seval,h6]
    by_cases hi0:(0:Int)<i
    ·simp only[tt,seval,az hi0,h6,h5]
     refine kU ?_
     rw[sW]
     refine⟨aa,aa,_,aH cY (aD hlt),Tok.ne _ _,?_⟩
     simp only[seval,Tok.tk]
     refine cZ (gC l[i] htx) ?_ ?_<;>simp only[tt,seval,h6,Tok.row]
     refine⟨ae,by rw[eI,aE,Nat.mul_one],⟨by simp only[maxLen];omega,aa⟩,?_⟩
     have e:((bs++[32])++(bU l[i]).data.toList).length=bs.length+1+(bU l[i]).size:=by rw[aC,aE];simp
     rw[eJ,eJ,<-e,ax (n:=(i:Int)+1) aa aa]
     exact⟨_,none,ak rfl (ao _),aq _,⟨i+1,_,rfl,rfl,aa,by rw[e];omega,rfl,rfl⟩,aB⟩
    ·simp only[tt,seval,au hi0,h6,h5]
     refine⟨aa,aa,_,aH cY (aD hlt),Tok.ne _ _,?_⟩
     simp only[seval,Tok.tk]
     refine cZ (gC l[i] htx) ?_ ?_<;>simp only[tt,seval,h6,Tok.row]
     refine⟨ae,by rw[eI,aE,Nat.mul_one],⟨by simp only[maxLen];omega,aa⟩,?_⟩
     have e:(bs++(bU l[i]).data.toList).length=bs.length+(bU l[i]).size:=by rw[aC,aE]
     rw[eJ,<-e,ax (n:=(i:Int)+1) aa aa]
     exact⟨_,none,ak rfl (ao _),aq _,⟨i+1,_,rfl,rfl,aa,by rw[e];omega,rfl,rfl⟩,aB⟩
  ·refine fun _=>ab (fun h2=>?_) (fun h2=>?_)
   ·exact⟨_,_,⟨⟨#[]⟩,rfl,by show 0<=2000;omega⟩,ap rfl⟩
   ·try simp only[tt,seval]
    refine⟨ae,by simp only[maxLen];omega,bs,rfl,rfl,?_⟩
    simp only[tt,seval]
    exact⟨_,_,⟨⟨bs.toArray⟩,rfl,by show bs.toArray.size<=2000;simp;omega⟩,ap rfl⟩
theorem Gn (l:List Tok) (hl:l.length<=100000) (hT:∀t∈l,t.text.size<=100):Cl Tryz.prog 134 [.c (.sl l.length (l.flatMap Tok.row) none)] [] fun r _=>∃s:ByteArray,r=vs s/\s.size<=2000:=by
 refine ai ac false Tryz.func134 rfl ae ?_
 simp only[Tryz.f134,tt,seval]
 refine fV (BB l hl hT) ?_ ?_ ?_
 ·decide
 ·simp only[tt,seval]
 rintro r ⟨s,rfl,hs⟩
 simp only[tt,seval]
 exact⟨_,_,⟨s,rfl,hs⟩,ap rfl⟩
theorem vc (l:List Tok):(bS l).size<=2000:=by
 unfold bS
 split
 ·split
  ·exact Nat.zero_le _
  ·show (List.toArray _).size<=2000
   simp;omega
 ·exact Nat.zero_le _
theorem pV (l:List Tok):∀k,k<=l.length->(eE l k).length<=k*301
 |0,_=>by simp [eE]
 |k+1,h=>by
  have:=pV l k aa
  have h2:=Ap l[k]
  have h3:(jn l k).length<=301:=by
   rw[yT l aa,aC,aE]
   split
   ·simp only[List.length_singleton];omega
   ·simp only[List.length_nil];omega
  rw[cV,aC]
  omega
theorem rX:∀w∈([⟨#[40]⟩,⟨#[41]⟩,⟨#[32]⟩,⟨#[39]⟩,⟨#[110,111,116,32]⟩,⟨#[45,45,10]⟩,⟨#[47,42,120,42,47]⟩,⟨#[49]⟩,⟨#[33]⟩,⟨#[44]⟩,⟨#[61]⟩]:List ByteArray),w.size<=7:=by decide
def Jm (r:S):Prop:=∃s:ByteArray,r=vs s/\s.size<=5000
set_option maxHeartbeats 4000000 in
theorem Ec (c:Cur) (h0:0<=c.i) (l:List Tok) (hl:l.length<=100000) (hT:∀t∈l,t.text.size<=100):Cl Tryz.prog 63 [.c (.p 9000 0),.c (.sl l.length (l.flatMap Tok.row) none)] [c.cs] (xq Jm):=by
 have c0:=BO l (fun t ht=>Nat.le_trans (hT t ht) ah) (Nat.le_trans (pV l _ (Nat.le_refl _)) aa)
 have hs0:=vc l
 generalize bS l=s0 at *
 refine ai ac false Tryz.func63 rfl ae ?_
 simp only[Tryz.f63,tt,seval]
 refine cZ (c0) ?_ ?_<;>simp only[tt,seval,Cur.cs]
 refine CallQ.intro (cg c h0 3) ?_ ?_ ?_
 ·decide
 ·simp only[tt,seval,Cur.cs]
 rintro r os ⟨c1,⟨b,rfl⟩,rfl,i1⟩ hos
 simp only[tt,seval,Cur.cs]
 refine ab (fun _=>?_) (fun _=>?_)
 ·skip
  refine fV (Gn l hl hT) ?_ ?_ ?_
  ·decide
  ·simp only[tt,seval]
  rintro r ⟨s,rfl,hs⟩
  simp only[tt,seval]
  intro hln
  rw[ax (n:=(s.size:Int)+1) aa aa]
  refine CallQ.intro (bj c1 i1 ((s.size:Int)+1)) ?_ ?_ ?_
  ·decide
  ·simp only[tt,seval,Cur.cs]
  rintro r os ⟨y,c2,rfl,rfl,hy,i2⟩ hos
  simp only[tt,seval,Cur.cs]
  have hy2:=hy.2 aa
  have hok:Go.Vc.okV (.string s):=show s.size<=9223372036854775807 by omega
  have hx1:(s.extract 0 y.toNat).size<=2000:=by simp only[ByteArray.size_extract];omega
  have hx2:(s.extract y.toNat s.size).size<=2000:=by simp only[ByteArray.size_extract];omega
  refine CallQ.intro (bj c2 i2 12) ?_ ?_ ?_
  ·decide
  ·simp only[tt,seval,Cur.cs]
  rintro r os ⟨z,c3,rfl,rfl,_,i3⟩ hos
  simp only[tt,seval,Cur.cs]
  refine ab (fun _=>?_) (fun _=>?_)
  ·skip
   refine dDrawn.intro [27] (j3 [0,2,4,6,14,16,18,9,11,12,20,22]) ae ?_
   simp only[tt,seval]
   all_goals try simp only[tt,seval,cu,wG (P:=Tryz.prog) (t:=9) (u:=s) (b:=y) ae hok hy.1 aa,ms (P:=Tryz.prog) (t:=9) (u:=s) (a:=y) ae hok hy.1 aa]
   all_goals repeat' first|refine dO ?_ ?_|refine bz ?_ ?_
   all_goals
    refine fe [26] ?_
    simp only[tt,seval]
    refine Call1.intro (eg c3 i3 [⟨#[40]⟩,⟨#[41]⟩,⟨#[32]⟩,⟨#[39]⟩,⟨#[110,111,116,32]⟩,⟨#[45,45,10]⟩,⟨#[47,42,120,42,47]⟩,⟨#[49]⟩,⟨#[33]⟩,⟨#[44]⟩,⟨#[61]⟩] ah) ?_ ?_ ?_
    ·decide
    ·simp only[tt,seval,Cur.cs,srow]
     decide
    rintro r os ⟨c4,⟨w,hw,rfl⟩,rfl,i4⟩ hos
    simp only[tt,seval,Cur.cs,srow]
   all_goals repeat' first|refine lO ?_ ?_|refine eO ?_ ?_|refine eP ?_ ?_
   all_goals
    have hw2:=rX w hw
   all_goals repeat' first|refine lO ?_ ?_|refine eO ?_ ?_|refine eP ?_ ?_
   all_goals
    rw[fU (by (try simp only[ByteArray.size_append]);omega)]
    simp only[tt,seval]
   all_goals repeat' first|refine lO ?_ ?_|refine eO ?_ ?_|refine eP ?_ ?_
   all_goals
    rw[fU (by (try simp only[ByteArray.size_append]);omega)]
    simp only[tt,seval]
   all_goals
    exact⟨_,_,⟨c4,⟨_,rfl,by simp only[ByteArray.size_append];omega⟩,rfl,i4⟩,gq rfl rfl⟩
  ·refine ab (fun _=>?_) (fun _=>?_)
   ·try simp only[tt,seval,wG (P:=Tryz.prog) (t:=9) (u:=s) (b:=y) ae hok hy.1 aa]
    exact⟨_,_,⟨c3,⟨_,rfl,aa⟩,rfl,i3⟩,gq rfl rfl⟩
   ·refine ab (fun _=>?_) (fun _=>?_)
    ·skip
     refine cZ (qB s aa) ?_ ?_<;>simp only[tt,seval]
     exact⟨_,_,⟨c3,⟨_,rfl,by rw[g7];omega⟩,rfl,i3⟩,gq rfl rfl⟩
    ·exact⟨_,_,⟨c3,⟨_,rfl,aa⟩,rfl,i3⟩,gq rfl rfl⟩
 ·try simp only[tt,seval,Cur.cs,cu,Tok.row]
  obtain⟨s,rfl⟩:∃s,s=s0:=⟨_,rfl⟩
  have hs:=hs0
  intro hln
  rw[ax (n:=(s.size:Int)+1) aa aa]
  refine CallQ.intro (bj c1 i1 ((s.size:Int)+1)) ?_ ?_ ?_
  ·decide
  ·simp only[tt,seval,Cur.cs]
  rintro r os ⟨y,c2,rfl,rfl,hy,i2⟩ hos
  simp only[tt,seval,Cur.cs]
  have hy2:=hy.2 aa
  have hok:Go.Vc.okV (.string s):=show s.size<=9223372036854775807 by omega
  have hx1:(s.extract 0 y.toNat).size<=2000:=by simp only[ByteArray.size_extract];omega
  have hx2:(s.extract y.toNat s.size).size<=2000:=by simp only[ByteArray.size_extract];omega
  refine CallQ.intro (bj c2 i2 12) ?_ ?_ ?_
  ·decide
  ·simp only[tt,seval,Cur.cs]
  rintro r os ⟨z,c3,rfl,rfl,_,i3⟩ hos
  simp only[tt,seval,Cur.cs]
  refine ab (fun _=>?_) (fun _=>?_)
  ·skip
   refine dDrawn.intro [27] (j3 [0,2,4,6,14,16,18,9,11,12,20,22]) ae ?_
   simp only[tt,seval]
   all_goals try simp only[tt,seval,cu,wG (P:=Tryz.prog) (t:=9) (u:=s) (b:=y) ae hok hy.1 aa,ms (P:=Tryz.prog) (t:=9) (u:=s) (a:=y) ae hok hy.1 aa]
   all_goals repeat' first|refine dO ?_ ?_|refine bz ?_ ?_
   all_goals
    refine fe [26] ?_
    simp only[tt,seval]
    refine Call1.intro (eg c3 i3 [⟨#[40]⟩,⟨#[41]⟩,⟨#[32]⟩,⟨#[39]⟩,⟨#[110,111,116,32]⟩,⟨#[45,45,10]⟩,⟨#[47,42,120,42,47]⟩,⟨#[49]⟩,⟨#[33]⟩,⟨#[44]⟩,⟨#[61]⟩] ah) ?_ ?_ ?_
    ·decide
    ·simp only[tt,seval,Cur.cs,srow]
     decide
    rintro r os ⟨c4,⟨w,hw,rfl⟩,rfl,i4⟩ hos
    simp only[tt,seval,Cur.cs,srow]
   all_goals repeat' first|refine lO ?_ ?_|refine eO ?_ ?_|refine eP ?_ ?_
   all_goals
    have hw2:=rX w hw
   all_goals repeat' first|refine lO ?_ ?_|refine eO ?_ ?_|refine eP ?_ ?_
   all_goals
    rw[fU (by (try simp only[ByteArray.size_append]);omega)]
    simp only[tt,seval]
   all_goals repeat' first|refine lO ?_ ?_|refine eO ?_ ?_|refine eP ?_ ?_
   all_goals
    rw[fU (by (try simp only[ByteArray.size_append]);omega)]
    simp only[tt,seval]
   all_goals
    exact⟨_,_,⟨c4,⟨_,rfl,by simp only[ByteArray.size_append];omega⟩,rfl,i4⟩,gq rfl rfl⟩
  ·refine ab (fun _=>?_) (fun _=>?_)
   ·try simp only[tt,seval,wG (P:=Tryz.prog) (t:=9) (u:=s) (b:=y) ae hok hy.1 aa]
    exact⟨_,_,⟨c3,⟨_,rfl,aa⟩,rfl,i3⟩,gq rfl rfl⟩
   ·refine ab (fun _=>?_) (fun _=>?_)
    ·skip
     refine cZ (qB s aa) ?_ ?_<;>simp only[tt,seval]
     exact⟨_,_,⟨c3,⟨_,rfl,by rw[g7];omega⟩,rfl,i3⟩,gq rfl rfl⟩
    ·exact⟨_,_,⟨c3,⟨_,rfl,aa⟩,rfl,i3⟩,gq rfl rfl⟩
end Go.Proofs.YtbodcedhmccenaaGreatDoor
