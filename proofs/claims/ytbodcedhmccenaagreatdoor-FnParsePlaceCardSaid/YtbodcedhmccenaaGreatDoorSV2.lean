/-
  Draws of tokens.
  Conditions: none.
-/
import Derived.Test.YtbodcedhmccenaaGreatDoorSJ1
import Derived.Test.YtbodcedhmccenaaGreatDoorSV1
set_option linter.unusedVariables false
set_option linter.unusedSimpArgs false
set_option linter.unusedSectionVars false
set_option maxRecDepth 8000
namespace Go.Proofs.YtbodcedhmccenaaGreatDoor
open Go Go.Dv
open Go.Vc (D d5 d6 cM bo)
theorem Ca (a b:Int) (h0:wU a) (h1:wU b):Cl Tryz.prog 175 [vi a,vi b] [] fun r _=>∃x,r=vi x/\wU x:=by
 refine ah ab false Tryz.func175 rfl (by kernel_rfl) ?_
 simp only[Tryz.f175,tt,seval]
 refine aa (fun h=>?_) (fun h=>?_)
 ·exact⟨_,_,⟨_,rfl,h0⟩,ak rfl⟩
 ·exact⟨_,_,⟨_,rfl,h1⟩,ak rfl⟩
def GT (r:S):Prop:=∃t:Tok,r = .ag (ar t.row)/\t.text.size<=100
theorem vF:∀s∈kl,s.size<=100:=by decide
set_option maxHeartbeats 4000000 in
theorem zP (c:Cur) (h0:0<=c.i):Cl Tryz.prog 235 [.c (.p 9000 0)] [c.cs] (sj GT):=by
 refine ah ab false Tryz.func235 rfl (by kernel_rfl) ?_
 simp only[Tryz.f235,tt,seval]
 refine CallQ.intro (aM c h0 6) ?_ ?_ ?_
 ·decide
 ·simp only[tt,seval,Cur.cs,bM]
 rintro r os ⟨x,c1,rfl,rfl,hx,i1⟩ hos
 simp only[tt,seval,Cur.cs,bM]
 refine aa (fun hx0=>?_) (fun hx0=>aa (fun hx1=>?_) (fun hx1=>aa (fun hx2=>?_) (fun hx2=>aa (fun hx3=>?_) (fun hx3=>?_))))
 ·try simp only[tt,seval]
  refine cZ (nF) ?_ ?_<;>simp only[tt,seval]
  refine CallQ.intro (aM c1 i1 28) ?_ ?_ ?_
  ·decide
  ·simp only[tt,seval,Cur.cs]
  rintro r os ⟨y,c2,rfl,rfl,hy,i2⟩ hos
  simp only[tt,seval,Cur.cs,bM]
  have hy2:=hy.2 (by omega)
  obtain⟨k,hk⟩:∃k:Nat,(1:Int)+y=k:=⟨((1:Int)+y).toNat,by omega⟩
  rw[aq (n:=(1:Int)+y) (by omega) (by omega),hk]
  have hlt:k<kl.length:=by show _<29;omega
  refine⟨by omega,by omega,_,aE eK (az hlt),l6 _ _,?_⟩
  simp only[tt,seval,srow]
  refine⟨.ag (ar (Tok.mk 1 kl[k] 0).row),[c2.cs],⟨c2,⟨_,rfl,vF _ (aK hlt)⟩,rfl,i2⟩,ai ?_⟩
  simp only[tt,seval,Cur.cs,Tok.row]
 ·try simp only[tt,seval]
  refine CallQ.intro (fG c1 i1) ?_ ?_ ?_
  ·decide
  ·simp only[tt,seval,Cur.cs]
  rintro r os ⟨c2,⟨s,rfl,hs⟩,rfl,i2⟩ hos
  simp only[tt,seval,Cur.cs,bM]
  refine⟨.ag (ar (Tok.mk 2 s 0).row),[c2.cs],⟨c2,⟨_,rfl,by have:s.size<=20:=by { simp only[bt,decide_eq_true_eq] at hs;omega };show s.size<=100;omega⟩,rfl,i2⟩,ai ?_⟩
  simp only[tt,seval,Cur.cs,Tok.row]
 ·try simp only[tt,seval]
  refine CallQ.intro (oq c1 i1) ?_ ?_ ?_
  ·decide
  ·simp only[tt,seval,Cur.cs]
  rintro r os ⟨c2,⟨w,rfl,hw⟩,rfl,i2⟩ hos
  simp only[tt,seval,Cur.cs]
  refine eb (Ca 0 w (by unfold wU;decide) hw) ?_ ?_ ?_
  ·decide
  ·simp only[tt,seval]
  rintro r ⟨z,rfl,hz⟩
  simp only[tt,seval]
  refine cZ (mA z hz.1 hz.2) ?_ ?_<;>simp only[tt,seval,bM]
  refine⟨.ag (ar (Tok.mk 3 (fo z) 0).row),[c2.cs],⟨c2,⟨_,rfl,Nat.le_trans (kU hz.1 hz.2) (by decide)⟩,rfl,i2⟩,ai ?_⟩
  simp only[tt,seval,Cur.cs,Tok.row]
 ·try simp only[tt,seval]
  refine dJ [29] ?_
  simp only[tt,seval]
  refine Call1.intro (dC c1 i1 [⟨#[]⟩,⟨#[120]⟩,⟨#[105,116,39,115]⟩,⟨#[39,39]⟩,⟨#[116,119,111,32,119,111,114,100,115]⟩,⟨#[34]⟩,⟨#[45,45]⟩,⟨#[0,255]⟩] (by decide)) ?_ ?_ ?_
  ·decide
  ·simp only[tt,seval,Cur.cs,srow]
  rintro r os ⟨c2,⟨s,hs,rfl⟩,rfl,ic2⟩ hos
  simp only[tt,seval,Cur.cs,bM,srow]
  refine⟨.ag (ar (Tok.mk 4 s 0).row),[c2.cs],⟨c2,⟨_,rfl,(by decide:∀s∈[⟨#[]⟩,⟨#[120]⟩,⟨#[105,116,39,115]⟩,⟨#[39,39]⟩,⟨#[116,119,111,32,119,111,114,100,115]⟩,⟨#[34]⟩,⟨#[45,45]⟩,⟨#[0,255]⟩],s.size<=100) s hs⟩,rfl,ic2⟩,ai ?_⟩
  simp only[tt,seval,Cur.cs,Tok.row]
 ·try simp only[tt,seval]
  refine CallQ.intro (C8 c1 i1) ?_ ?_ ?_
  ·decide
  ·simp only[tt,seval,Cur.cs]
  rintro r os ⟨c2,⟨s,rfl,hs⟩,rfl,i2⟩ hos
  simp only[tt,seval,Cur.cs,bM]
  refine⟨.ag (ar (Tok.mk 5 s 0).row),[c2.cs],⟨c2,⟨_,rfl,Nat.le_trans hs (by decide)⟩,rfl,i2⟩,ai ?_⟩
  simp only[tt,seval,Cur.cs,Tok.row]
set_option maxHeartbeats 4000000 in
theorem vG (c:Cur) (h0:0<=c.i):Cl Tryz.prog 136 [.c (.p 9000 0)] [c.cs] (sj GT):=by
 refine ah ab false Tryz.func136 rfl (by kernel_rfl) ?_
 simp only[Tryz.f136,tt,seval]
 refine CallQ.intro (zP c h0) ?_ ?_ ?_
 ·decide
 ·simp only[tt,seval,Cur.cs,bM]
 rintro r os ⟨c1,⟨⟨k,s,a⟩,rfl,hs⟩,rfl,i1⟩ hos
 simp only[tt,seval,Cur.cs,bM,Tok.row]
 have hs:s.size<=100:=hs
 refine CallQ.intro (aM c1 i1 10) ?_ ?_ ?_
 ·decide
 ·simp only[tt,seval,Cur.cs]
 rintro r os ⟨x,c2,rfl,rfl,hx,i2⟩ hos
 simp only[tt,seval,Cur.cs,bM]
 refine aa (fun hx0=>?_) (fun hx0=>aa (fun hx1=>?_) (fun hx1=>aa (fun hx2=>?_) (fun hx2=>?_)))
 ·try simp only[tt,seval]
  refine CallQ.intro (aM c2 i2 7) ?_ ?_ ?_
  ·decide
  ·simp only[tt,seval,Cur.cs]
  rintro r os ⟨y,c3,rfl,rfl,hy,i3⟩ hos
  simp only[tt,seval,Cur.cs]
  refine⟨.ag (ar (Tok.mk y s a).row),[c3.cs],⟨c3,⟨_,rfl,hs⟩,rfl,i3⟩,ai ?_⟩
  simp only[tt,seval,Cur.cs,Tok.row]
 ·try simp only[tt,seval]
  refine dJ [16] ?_
  simp only[tt,seval]
  refine Call1.intro (dC c2 i2 [⟨#[]⟩,⟨#[115,101,108,101,99,116]⟩,⟨#[83,69,76,69,67,84,83]⟩,⟨#[48,49]⟩,⟨#[57,50,50,51,51,55,50,48,51,54,56,53,52,55,55,53,56,48,56]⟩,⟨#[61,62]⟩,⟨#[124]⟩,⟨#[97,98,99,100,101,102,103,104,105,106,107,108,109,110,111,112,113,114,115,116,117]⟩,⟨#[49,50,51,52,53,54,55,56,57,48,49,50,51,52,53,54,55,56,57,48,49,50,51,52,53,54,55,56,57,48,49,50,51,52,53,54,55,56,57,48,49]⟩] (by decide)) ?_ ?_ ?_
  ·decide
  ·simp only[tt,seval,Cur.cs,srow]
  rintro r os ⟨c3,⟨s2,hs2,rfl⟩,rfl,ic3⟩ hos
  simp only[tt,seval,Cur.cs,srow]
  refine⟨.ag (ar (Tok.mk k s2 a).row),[c3.cs],⟨c3,⟨_,rfl,(by decide:∀s∈[⟨#[]⟩,⟨#[115,101,108,101,99,116]⟩,⟨#[83,69,76,69,67,84,83]⟩,⟨#[48,49]⟩,⟨#[57,50,50,51,51,55,50,48,51,54,56,53,52,55,55,53,56,48,56]⟩,⟨#[61,62]⟩,⟨#[124]⟩,⟨#[97,98,99,100,101,102,103,104,105,106,107,108,109,110,111,112,113,114,115,116,117]⟩,⟨#[49,50,51,52,53,54,55,56,57,48,49,50,51,52,53,54,55,56,57,48,49,50,51,52,53,54,55,56,57,48,49,50,51,52,53,54,55,56,57,48,49]⟩],s.size<=100) s2 hs2⟩,rfl,ic3⟩,ai ?_⟩
  simp only[tt,seval,Cur.cs,Tok.row]
 ·try simp only[tt,seval]
  refine CallQ.intro (oq c2 i2) ?_ ?_ ?_
  ·decide
  ·simp only[tt,seval,Cur.cs]
  rintro r os ⟨c3,⟨w,rfl,hw⟩,rfl,i3⟩ hos
  simp only[tt,seval,Cur.cs]
  refine⟨.ag (ar (Tok.mk k s w).row),[c3.cs],⟨c3,⟨_,rfl,hs⟩,rfl,i3⟩,ai ?_⟩
  simp only[tt,seval,Cur.cs,Tok.row]
 ·try simp only[tt,seval]
  refine⟨.ag (ar (Tok.mk k s a).row),[c2.cs],⟨c2,⟨_,rfl,hs⟩,rfl,i2⟩,ai ?_⟩
  simp only[tt,seval,Cur.cs,Tok.row]
theorem fk {α:Type} {row:α->List D} {sz:Nat} (hsz:∀e,(row e).length=sz):∀(es:List α) (k:Nat),(es.flatMap row).take (k*sz)=(es.take k).flatMap row
 | [],k=>by simp
 |e::es,0=>by simp
 |e::es,k+1=>by
  rw[List.flatMap_cons,List.take_succ_cons,List.flatMap_cons,List.take_append,hsz,Nat.succ_mul,Nat.add_sub_cancel,fk hsz es k,List.take_of_length_le (by rw[hsz];omega)]
theorem lA {α:Type} {row:α->List D} {sz:Nat} (hsz:∀e,(row e).length=sz):∀(es:List α) (k:Nat),(es.flatMap row).drop (k*sz)=(es.drop k).flatMap row
 | [],k=>by simp
 |e::es,0=>by simp
 |e::es,k+1=>by
  rw[List.flatMap_cons,List.drop_succ_cons,List.drop_append,hsz,Nat.succ_mul,Nat.add_sub_cancel,lA hsz es k,List.drop_of_length_le (by rw[hsz];omega),List.nil_append]
def H6 (n:Nat) (r:S):Prop:=∃l:List Tok,r = .c (.sl (l).length ((l).flatMap Tok.row) none)/\l.length<=n/\∀t∈l,t.text.size<=100
set_option maxHeartbeats 4000000 in
theorem oT (L:List Tok) (hL:L.length<=900000) (hT:∀t∈L,t.text.size<=100) (c:Cur) (h0:0<=c.i):Cl Tryz.prog 64 [.c (.p 9000 0),.c (.sl (L).length ((L).flatMap Tok.row) none)] [c.cs] (sj (H6 (L.length+1))):=by
 refine ah ab false Tryz.func64 rfl (by kernel_rfl) ?_
 simp only[Tryz.f64,tt,seval]
 refine⟨by kernel_rfl,bT cn L,⟨by simp only[maxLen];omega,by omega⟩,fun _=>?_⟩
 rw[Nat.zero_add,aq (n:=(L.length:Int)+1) (by omega) (by omega)]
 refine CallQ.intro (aM c h0 ((L.length:Int)+1)) ?_ ?_ ?_
 ·decide
 ·simp only[tt,seval,Cur.cs]
 rintro r os ⟨k0,c1,rfl,rfl,hk0,i1⟩ hos
 simp only[tt,seval,Cur.cs]
 have hk1:=hk0.2 (by omega)
 obtain⟨k,rfl⟩:∃k:Nat,k0=k:=⟨k0.toNat,by omega⟩
 have hk:k<=L.length:=by omega
 refine CallQ.intro (aM c1 i1 7) ?_ ?_ ?_
 ·decide
 ·simp only[tt,seval,Cur.cs]
 rintro r os ⟨x,c2,rfl,rfl,hx,i2⟩ hos
 simp only[tt,seval,Cur.cs]
 refine aa (fun hx0=>?_) (fun hx0=>aa (fun hx1=>?_) (fun hx1=>aa (fun hx2=>?_) (fun hx2=>aa (fun hx3=>?_) (fun hx3=>?_))))
 ·skip
  refine⟨by omega,by omega,?_⟩
  have e1:((k:Int)-0).toNat=k:=by omega
  have e2:(L.take k).length=k:=by rw[List.length_take];omega
  rw[e1,fk cn]
  refine⟨.c (.sl k ((L.take k).flatMap Tok.row) none),[c2.cs],⟨c2,⟨L.take k,by rw[e2],by rw[e2];omega,fun t h=>hT t (List.mem_of_mem_take h)⟩,rfl,i2⟩,ai ?_⟩
  simp only[tt,seval,Cur.cs]
 ·skip
  have e1:((k:Int)-0).toNat=k:=by omega
  have e5:((L.length:Int)-(k:Int)).toNat=L.length-k:=by omega
  have e6:((k:Int)).toNat=k:=by omega
  have e7:(L.drop k).take (L.length-k)=L.drop k:=List.take_of_length_le (by rw[List.length_drop];exact Nat.le_refl _)
  have htl:(L.take k).length=k:=by rw[List.length_take];omega
  refine dDrawn.intro [30] (iO [2,4,6,10,18,20,22,1,9,13,15,17,25,26]) (by kernel_rfl) ?_
  simp only[tt,seval]
  simp only[e1,e5,fk cn,lA cn,e7]
  refine⟨by omega,by omega,by omega,by omega,Int.le_refl _,by kernel_rfl,by rw[bT cn,htl],⟨by simp only[maxLen];omega,by omega⟩,?_⟩
  refine CallQ.intro (vG c2 i2) ?_ ?_ ?_
  ·decide
  ·simp only[tt,seval,Cur.cs]
   decide
  rintro r os ⟨c3,⟨⟨tk,ts,ta⟩,rfl,hts⟩,rfl,i3⟩ hos
  simp only[tt,seval,Cur.cs,bM,Tok.row]
  refine⟨by kernel_rfl,⟨by simp only[maxLen];omega,by omega⟩,by kernel_rfl,by rw[bT cn,List.length_drop],⟨by simp only[maxLen];omega,by omega⟩,?_⟩
  obtain⟨l,hl⟩:∃l,l=L.take k++[(⟨tk,ts,ta⟩:Tok)]++L.drop k:=⟨_,rfl⟩
  have hll:l.length=0+k+1+(L.length-k):=by rw[hl,aB,aB,htl,List.length_drop,List.length_singleton];omega
  have hlr:l.flatMap Tok.row=(L.take k).flatMap Tok.row++[D.lit (.int .i64 tk),D.lit (.string ts),D.lit (.int .i64 ta)]++(L.drop k).flatMap Tok.row:=by rw[hl,List.flatMap_append,List.flatMap_append];rfl
  rw[<-hll,<-hlr]
  refine⟨.c (.sl l.length (l.flatMap Tok.row) none),[c3.cs],⟨c3,⟨l,rfl,by omega,fun t h=>by
   rw[hl] at h
   rcases List.mem_append.1 h with h|h
   ·rcases List.mem_append.1 h with h|h
    ·exact hT t (List.mem_of_mem_take h)
    ·rw[List.mem_singleton.1 h];exact hts
   ·exact hT t (List.mem_of_mem_drop h)⟩,rfl,i3⟩,ai ?_⟩
  simp only[tt,seval,Cur.cs]
 ·refine fun _=>aa (fun hlt=>?_) (fun hge=>?_)
  ·have hlt:k<L.length:=by omega
   have e1:((k:Int)-0).toNat=k:=by omega
   have e3:IntKind.i64.wrap ((k:Int)+1)=(k:Int)+1:=aq (by omega) (by omega)
   have e4:((k:Int)+1).toNat=k+1:=by omega
   have e5:((L.length:Int)-((k:Int)+1)).toNat=L.length-(k+1):=by omega
   have e7:(L.drop (k+1)).take (L.length-(k+1))=L.drop (k+1):=List.take_of_length_le (by rw[List.length_drop];exact Nat.le_refl _)
   have htl:(L.take k).length=k:=by rw[List.length_take];omega
   refine dDrawn.intro [] (iO [2,4,6,10,12,14,16,1,9,19,20]) (by kernel_rfl) ?_
   simp only[tt,seval]
   simp only[e1,e3,e4,e5,fk cn,lA cn,e7]
   refine⟨by omega,by omega,by omega,by omega,Int.le_refl _,by kernel_rfl,by rw[bT cn,htl],⟨by simp only[maxLen];omega,by omega⟩,by kernel_rfl,by rw[bT cn,List.length_drop],⟨by simp only[maxLen];omega,by omega⟩,?_⟩
   obtain⟨l,hl⟩:∃l,l=L.take k++L.drop (k+1):=⟨_,rfl⟩
   have hll:l.length=0+k+(L.length-(k+1)):=by rw[hl,aB,htl,List.length_drop];omega
   have hlr:l.flatMap Tok.row=(L.take k).flatMap Tok.row++(L.drop (k+1)).flatMap Tok.row:=by rw[hl,List.flatMap_append]
   rw[<-hll,<-hlr]
   refine⟨.c (.sl l.length (l.flatMap Tok.row) none),[c2.cs],⟨c2,⟨l,rfl,by omega,fun t h=>by
    rw[hl] at h
    rcases List.mem_append.1 h with h|h
    ·exact hT t (List.mem_of_mem_take h)
    ·exact hT t (List.mem_of_mem_drop h)⟩,rfl,i2⟩,ai ?_⟩
   simp only[tt,seval,Cur.cs]
  ·try simp only[tt,seval]
   refine⟨.c (.sl L.length (L.flatMap Tok.row) none),[c2.cs],⟨c2,⟨L,rfl,by omega,hT⟩,rfl,i2⟩,ai ?_⟩
   simp only[tt,seval,Cur.cs]
 ·refine fun _=>aa (fun hlt=>?_) (fun hge=>?_)
  ·have hlt':k<L.length:=by omega
   refine CallQ.intro (vG c2 i2) ?_ ?_ ?_
   ·decide
   ·simp only[tt,seval,Cur.cs]
   rintro r os ⟨c3,⟨⟨tk,ts,ta⟩,rfl,hts⟩,rfl,i3⟩ hos
   simp only[tt,seval,Cur.cs,Tok.row]
   refine⟨by omega,by omega,by rw[bT cn];omega,?_⟩
   obtain⟨l,hl⟩:∃l,l=L.set k ⟨tk,ts,ta⟩:=⟨_,rfl⟩
   have hll:l.length=L.length:=by rw[hl,List.length_set]
   have hlr:l.flatMap Tok.row=(L.flatMap Tok.row).take (k*3)++D.lit (.int .i64 tk)::D.lit (.string ts)::D.lit (.int .i64 ta)::(L.flatMap Tok.row).drop (k*3+3):=by
    rw[hl,List.set_eq_take_append_cons_drop,if_pos hlt',List.flatMap_append,List.flatMap_cons,show k*3+3=(k+1)*3 by omega,fk cn,lA cn]
    rfl
   rw[<-hlr,<-hll]
   refine⟨.c (.sl l.length (l.flatMap Tok.row) none),[c3.cs],⟨c3,⟨l,rfl,by omega,fun t h=>by
    rw[hl] at h
    rcases List.mem_or_eq_of_mem_set h with h|h
    ·exact hT t h
    ·rw[h];exact hts⟩,rfl,i3⟩,ai ?_⟩
   simp only[tt,seval,Cur.cs]
  ·try simp only[tt,seval]
   refine⟨.c (.sl L.length (L.flatMap Tok.row) none),[c2.cs],⟨c2,⟨L,rfl,by omega,hT⟩,rfl,i2⟩,ai ?_⟩
   simp only[tt,seval,Cur.cs]
 ·refine⟨.c (.sl L.length (L.flatMap Tok.row) none),[c2.cs],⟨c2,⟨L,rfl,by omega,hT⟩,rfl,i2⟩,ai ?_⟩
  simp only[tt,seval,Cur.cs]
end Go.Proofs.YtbodcedhmccenaaGreatDoor
