/-
  Draws of tokens.
  Conditions: none.
-/
import Derived.Test.YtbodcedhmccenaaGreatDoorPFJ1
import Derived.Test.YtbodcedhmccenaaGreatDoorPFV1
set_option linter.unusedVariables false
set_option linter.unusedSimpArgs false
set_option linter.unusedSectionVars false
set_option maxRecDepth 8000
namespace Go.Proofs.YtbodcedhmccenaaGreatDoor
open Go Go.Dv
open Go.Vc (D dg dh cX bk)
theorem Eb (a b:Int) (h0:yF a) (h1:yF b):Cl Tryz.prog 175 [vi a,vi b] [] fun r _=>∃x,r=vi x/\yF x:=by
 refine ai ac false Tryz.func175 rfl ae ?_
 simp only[Tryz.f175,tt,seval]
 refine ab (fun h=>?_) (fun h=>?_)
 ·exact⟨_,_,⟨_,rfl,h0⟩,ap rfl⟩
 ·exact⟨_,_,⟨_,rfl,h1⟩,ap rfl⟩
def K6 (r:S):Prop:=∃t:Tok,r = .ag (ar t.row)/\t.text.size<=100
theorem xv:∀s∈kV,s.size<=100:=by decide
set_option maxHeartbeats 4000000 in
theorem BA (c:Cur) (h0:0<=c.i):Cl Tryz.prog 235 [.c (.p 9000 0)] [c.cs] (xq K6):=by
 refine ai ac false Tryz.func235 rfl ae ?_
 simp only[Tryz.f235,tt,seval]
 refine CallQ.intro (bj c h0 6) ?_ ?_ ?_
 ·decide
 ·simp only[tt,seval,Cur.cs,cu]
 rintro r os ⟨x,c1,rfl,rfl,hx,i1⟩ hos
 simp only[tt,seval,Cur.cs,cu]
 refine ab (fun hx0=>?_) (fun hx0=>ab (fun hx1=>?_) (fun hx1=>ab (fun hx2=>?_) (fun hx2=>ab (fun hx3=>?_) (fun hx3=>?_))))
 ·try simp only[tt,seval]
  refine cZ (oO) ?_ ?_<;>simp only[tt,seval]
  refine CallQ.intro (bj c1 i1 28) ?_ ?_ ?_
  ·decide
  ·simp only[tt,seval,Cur.cs]
  rintro r os ⟨y,c2,rfl,rfl,hy,i2⟩ hos
  simp only[tt,seval,Cur.cs,cu]
  have hy2:=hy.2 aa
  obtain⟨k,hk⟩:∃k:Nat,(1:Int)+y=k:=⟨((1:Int)+y).toNat,aa⟩
  rw[ax (n:=(1:Int)+y) aa aa,hk]
  have hlt:k<kV.length:=by show _<29;omega
  refine⟨aa,aa,_,aH fE (aD hlt),jY _ _,?_⟩
  simp only[tt,seval,srow]
  refine⟨.ag (ar (Tok.mk 1 kV[k] 0).row),[c2.cs],⟨c2,⟨_,rfl,xv _ (aO hlt)⟩,rfl,i2⟩,am ?_⟩
  simp only[tt,seval,Cur.cs,Tok.row]
 ·try simp only[tt,seval]
  refine CallQ.intro (m8 c1 i1) ?_ ?_ ?_
  ·decide
  ·simp only[tt,seval,Cur.cs]
  rintro r os ⟨c2,⟨s,rfl,hs⟩,rfl,i2⟩ hos
  simp only[tt,seval,Cur.cs,cu]
  refine⟨.ag (ar (Tok.mk 2 s 0).row),[c2.cs],⟨c2,⟨_,rfl,by have:s.size<=20:=by { simp only[bK,decide_eq_true_eq] at hs;omega };show s.size<=100;omega⟩,rfl,i2⟩,am ?_⟩
  simp only[tt,seval,Cur.cs,Tok.row]
 ·try simp only[tt,seval]
  refine CallQ.intro (pt c1 i1) ?_ ?_ ?_
  ·decide
  ·simp only[tt,seval,Cur.cs]
  rintro r os ⟨c2,⟨w,rfl,hw⟩,rfl,i2⟩ hos
  simp only[tt,seval,Cur.cs]
  refine fV (Eb 0 w (by unfold yF;decide) hw) ?_ ?_ ?_
  ·decide
  ·simp only[tt,seval]
  rintro r ⟨z,rfl,hz⟩
  simp only[tt,seval]
  refine cZ (nF z hz.1 hz.2) ?_ ?_<;>simp only[tt,seval,cu]
  refine⟨.ag (ar (Tok.mk 3 (d5 z) 0).row),[c2.cs],⟨c2,⟨_,rfl,Nat.le_trans (lW hz.1 hz.2) ah⟩,rfl,i2⟩,am ?_⟩
  simp only[tt,seval,Cur.cs,Tok.row]
 ·try simp only[tt,seval]
  refine fe [29] ?_
  simp only[tt,seval]
  refine Call1.intro (eg c1 i1 [⟨#[]⟩,⟨#[120]⟩,⟨#[105,116,39,115]⟩,⟨#[39,39]⟩,⟨#[116,119,111,32,119,111,114,100,115]⟩,⟨#[34]⟩,⟨#[45,45]⟩,⟨#[0,255]⟩] ah) ?_ ?_ ?_
  ·decide
  ·simp only[tt,seval,Cur.cs,srow]
  rintro r os ⟨c2,⟨s,hs,rfl⟩,rfl,ic2⟩ hos
  simp only[tt,seval,Cur.cs,cu,srow]
  refine⟨.ag (ar (Tok.mk 4 s 0).row),[c2.cs],⟨c2,⟨_,rfl,(by decide:∀s∈[⟨#[]⟩,⟨#[120]⟩,⟨#[105,116,39,115]⟩,⟨#[39,39]⟩,⟨#[116,119,111,32,119,111,114,100,115]⟩,⟨#[34]⟩,⟨#[45,45]⟩,⟨#[0,255]⟩],s.size<=100) s hs⟩,rfl,ic2⟩,am ?_⟩
  simp only[tt,seval,Cur.cs,Tok.row]
 ·try simp only[tt,seval]
  refine CallQ.intro (Ea c1 i1) ?_ ?_ ?_
  ·decide
  ·simp only[tt,seval,Cur.cs]
  rintro r os ⟨c2,⟨s,rfl,hs⟩,rfl,i2⟩ hos
  simp only[tt,seval,Cur.cs,cu]
  refine⟨.ag (ar (Tok.mk 5 s 0).row),[c2.cs],⟨c2,⟨_,rfl,Nat.le_trans hs ah⟩,rfl,i2⟩,am ?_⟩
  simp only[tt,seval,Cur.cs,Tok.row]
set_option maxHeartbeats 4000000 in
theorem xx (c:Cur) (h0:0<=c.i):Cl Tryz.prog 136 [.c (.p 9000 0)] [c.cs] (xq K6):=by
 refine ai ac false Tryz.func136 rfl ae ?_
 simp only[Tryz.f136,tt,seval]
 refine CallQ.intro (BA c h0) ?_ ?_ ?_
 ·decide
 ·simp only[tt,seval,Cur.cs,cu]
 rintro r os ⟨c1,⟨⟨k,s,a⟩,rfl,hs⟩,rfl,i1⟩ hos
 simp only[tt,seval,Cur.cs,cu,Tok.row]
 have hs:s.size<=100:=hs
 refine CallQ.intro (bj c1 i1 10) ?_ ?_ ?_
 ·decide
 ·simp only[tt,seval,Cur.cs]
 rintro r os ⟨x,c2,rfl,rfl,hx,i2⟩ hos
 simp only[tt,seval,Cur.cs,cu]
 refine ab (fun hx0=>?_) (fun hx0=>ab (fun hx1=>?_) (fun hx1=>ab (fun hx2=>?_) (fun hx2=>?_)))
 ·try simp only[tt,seval]
  refine CallQ.intro (bj c2 i2 7) ?_ ?_ ?_
  ·decide
  ·simp only[tt,seval,Cur.cs]
  rintro r os ⟨y,c3,rfl,rfl,hy,i3⟩ hos
  simp only[tt,seval,Cur.cs]
  refine⟨.ag (ar (Tok.mk y s a).row),[c3.cs],⟨c3,⟨_,rfl,hs⟩,rfl,i3⟩,am ?_⟩
  simp only[tt,seval,Cur.cs,Tok.row]
 ·try simp only[tt,seval]
  refine fe [16] ?_
  simp only[tt,seval]
  refine Call1.intro (eg c2 i2 [⟨#[]⟩,⟨#[115,101,108,101,99,116]⟩,⟨#[83,69,76,69,67,84,83]⟩,⟨#[48,49]⟩,⟨#[57,50,50,51,51,55,50,48,51,54,56,53,52,55,55,53,56,48,56]⟩,⟨#[61,62]⟩,⟨#[124]⟩,⟨#[97,98,99,100,101,102,103,104,105,106,107,108,109,110,111,112,113,114,115,116,117]⟩,⟨#[49,50,51,52,53,54,55,56,57,48,49,50,51,52,53,54,55,56,57,48,49,50,51,52,53,54,55,56,57,48,49,50,51,52,53,54,55,56,57,48,49]⟩] ah) ?_ ?_ ?_
  ·decide
  ·simp only[tt,seval,Cur.cs,srow]
  rintro r os ⟨c3,⟨s2,hs2,rfl⟩,rfl,ic3⟩ hos
  simp only[tt,seval,Cur.cs,srow]
  refine⟨.ag (ar (Tok.mk k s2 a).row),[c3.cs],⟨c3,⟨_,rfl,(by decide:∀s∈[⟨#[]⟩,⟨#[115,101,108,101,99,116]⟩,⟨#[83,69,76,69,67,84,83]⟩,⟨#[48,49]⟩,⟨#[57,50,50,51,51,55,50,48,51,54,56,53,52,55,55,53,56,48,56]⟩,⟨#[61,62]⟩,⟨#[124]⟩,⟨#[97,98,99,100,101,102,103,104,105,106,107,108,109,110,111,112,113,114,115,116,117]⟩,⟨#[49,50,51,52,53,54,55,56,57,48,49,50,51,52,53,54,55,56,57,48,49,50,51,52,53,54,55,56,57,48,49,50,51,52,53,54,55,56,57,48,49]⟩],s.size<=100) s2 hs2⟩,rfl,ic3⟩,am ?_⟩
  simp only[tt,seval,Cur.cs,Tok.row]
 ·try simp only[tt,seval]
  refine CallQ.intro (pt c2 i2) ?_ ?_ ?_
  ·decide
  ·simp only[tt,seval,Cur.cs]
  rintro r os ⟨c3,⟨w,rfl,hw⟩,rfl,i3⟩ hos
  simp only[tt,seval,Cur.cs]
  refine⟨.ag (ar (Tok.mk k s w).row),[c3.cs],⟨c3,⟨_,rfl,hs⟩,rfl,i3⟩,am ?_⟩
  simp only[tt,seval,Cur.cs,Tok.row]
 ·try simp only[tt,seval]
  refine⟨.ag (ar (Tok.mk k s a).row),[c2.cs],⟨c2,⟨_,rfl,hs⟩,rfl,i2⟩,am ?_⟩
  simp only[tt,seval,Cur.cs,Tok.row]
theorem jT {α:Type} {row:α->List D} {sz:Nat} (hsz:∀e,(row e).length=sz):∀(es:List α) (k:Nat),(es.flatMap row).take (k*sz)=(es.take k).flatMap row
 | [],k=>by simp
 |e::es,0=>by simp
 |e::es,k+1=>by
  rw[List.flatMap_cons,List.take_succ_cons,List.flatMap_cons,List.take_append,hsz,Nat.succ_mul,Nat.add_sub_cancel,jT hsz es k,List.take_of_length_le (by rw[hsz];omega)]
theorem my {α:Type} {row:α->List D} {sz:Nat} (hsz:∀e,(row e).length=sz):∀(es:List α) (k:Nat),(es.flatMap row).drop (k*sz)=(es.drop k).flatMap row
 | [],k=>by simp
 |e::es,0=>by simp
 |e::es,k+1=>by
  rw[List.flatMap_cons,List.drop_succ_cons,List.drop_append,hsz,Nat.succ_mul,Nat.add_sub_cancel,my hsz es k,List.drop_of_length_le (by rw[hsz];omega),List.nil_append]
def KU (n:Nat) (r:S):Prop:=∃l:List Tok,r = .c (.sl (l).length ((l).flatMap Tok.row) none)/\l.length<=n/\∀t∈l,t.text.size<=100
set_option maxHeartbeats 4000000 in
theorem xy (L:List Tok) (hL:L.length<=900000) (hT:∀t∈L,t.text.size<=100) (c:Cur) (h0:0<=c.i):Cl Tryz.prog 64 [.c (.p 9000 0),.c (.sl (L).length ((L).flatMap Tok.row) none)] [c.cs] (xq (KU (L.length+1))):=by
 refine ai ac false Tryz.func64 rfl ae ?_
 simp only[Tryz.f64,tt,seval]
 refine⟨ae,cG cY L,⟨by simp only[maxLen];omega,aa⟩,fun _=>?_⟩
 rw[Nat.zero_add,ax (n:=(L.length:Int)+1) aa aa]
 refine CallQ.intro (bj c h0 ((L.length:Int)+1)) ?_ ?_ ?_
 ·decide
 ·simp only[tt,seval,Cur.cs]
 rintro r os ⟨k0,c1,rfl,rfl,hk0,i1⟩ hos
 simp only[tt,seval,Cur.cs]
 have hk1:=hk0.2 aa
 obtain⟨k,rfl⟩:∃k:Nat,k0=k:=⟨k0.toNat,aa⟩
 have hk:k<=L.length:=by omega
 refine CallQ.intro (bj c1 i1 7) ?_ ?_ ?_
 ·decide
 ·simp only[tt,seval,Cur.cs]
 rintro r os ⟨x,c2,rfl,rfl,hx,i2⟩ hos
 simp only[tt,seval,Cur.cs]
 refine ab (fun hx0=>?_) (fun hx0=>ab (fun hx1=>?_) (fun hx1=>ab (fun hx2=>?_) (fun hx2=>ab (fun hx3=>?_) (fun hx3=>?_))))
 ·skip
  refine⟨aa,aa,?_⟩
  have e1:((k:Int)-0).toNat=k:=by omega
  have e2:(L.take k).length=k:=by rw[List.length_take];omega
  rw[e1,jT cY]
  refine⟨.c (.sl k ((L.take k).flatMap Tok.row) none),[c2.cs],⟨c2,⟨L.take k,by rw[e2],by rw[e2];omega,fun t h=>hT t (List.mem_of_mem_take h)⟩,rfl,i2⟩,am ?_⟩
  simp only[tt,seval,Cur.cs]
 ·skip
  have e1:((k:Int)-0).toNat=k:=by omega
  have e5:((L.length:Int)-(k:Int)).toNat=L.length-k:=by omega
  have e6:((k:Int)).toNat=k:=by omega
  have e7:(L.drop k).take (L.length-k)=L.drop k:=List.take_of_length_le (by rw[List.length_drop];exact Nat.le_refl _)
  have htl:(L.take k).length=k:=by rw[List.length_take];omega
  refine dDrawn.intro [30] (j3 [2,4,6,10,18,20,22,1,9,13,15,17,25,26]) ae ?_
  simp only[tt,seval]
  simp only[e1,e5,jT cY,my cY,e7]
  refine⟨aa,aa,aa,aa,Int.le_refl _,ae,by rw[cG cY,htl],⟨by simp only[maxLen];omega,aa⟩,?_⟩
  refine CallQ.intro (xx c2 i2) ?_ ?_ ?_
  ·decide
  ·simp only[tt,seval,Cur.cs]
   decide
  rintro r os ⟨c3,⟨⟨tk,ts,ta⟩,rfl,hts⟩,rfl,i3⟩ hos
  simp only[tt,seval,Cur.cs,cu,Tok.row]
  refine⟨ae,⟨by simp only[maxLen];omega,aa⟩,ae,by rw[cG cY,List.length_drop],⟨by simp only[maxLen];omega,aa⟩,?_⟩
  obtain⟨l,hl⟩:∃l,l=L.take k++[(⟨tk,ts,ta⟩:Tok)]++L.drop k:=⟨_,rfl⟩
  have hll:l.length=0+k+1+(L.length-k):=by rw[hl,aC,aC,htl,List.length_drop,List.length_singleton];omega
  have hlr:l.flatMap Tok.row=(L.take k).flatMap Tok.row++[D.lit (.int .i64 tk),D.lit (.string ts),D.lit (.int .i64 ta)]++(L.drop k).flatMap Tok.row:=by rw[hl,List.flatMap_append,List.flatMap_append];rfl
  rw[<-hll,<-hlr]
  refine⟨.c (.sl l.length (l.flatMap Tok.row) none),[c3.cs],⟨c3,⟨l,rfl,aa,fun t h=>by
   rw[hl] at h
   rcases List.mem_append.1 h with h|h
   ·rcases List.mem_append.1 h with h|h
    ·exact hT t (List.mem_of_mem_take h)
    ·rw[List.mem_singleton.1 h];exact hts
   ·exact hT t (List.mem_of_mem_drop h)⟩,rfl,i3⟩,am ?_⟩
  simp only[tt,seval,Cur.cs]
 ·refine fun _=>ab (fun hlt=>?_) (fun hge=>?_)
  ·have hlt:k<L.length:=by omega
   have e1:((k:Int)-0).toNat=k:=by omega
   have e3:IntKind.i64.wrap ((k:Int)+1)=(k:Int)+1:=ax aa aa
   have e4:((k:Int)+1).toNat=k+1:=by omega
   have e5:((L.length:Int)-((k:Int)+1)).toNat=L.length-(k+1):=by omega
   have e7:(L.drop (k+1)).take (L.length-(k+1))=L.drop (k+1):=List.take_of_length_le (by rw[List.length_drop];exact Nat.le_refl _)
   have htl:(L.take k).length=k:=by rw[List.length_take];omega
   refine dDrawn.intro [] (j3 [2,4,6,10,12,14,16,1,9,19,20]) ae ?_
   simp only[tt,seval]
   simp only[e1,e3,e4,e5,jT cY,my cY,e7]
   refine⟨aa,aa,aa,aa,Int.le_refl _,ae,by rw[cG cY,htl],⟨by simp only[maxLen];omega,aa⟩,ae,by rw[cG cY,List.length_drop],⟨by simp only[maxLen];omega,aa⟩,?_⟩
   obtain⟨l,hl⟩:∃l,l=L.take k++L.drop (k+1):=⟨_,rfl⟩
   have hll:l.length=0+k+(L.length-(k+1)):=by rw[hl,aC,htl,List.length_drop];omega
   have hlr:l.flatMap Tok.row=(L.take k).flatMap Tok.row++(L.drop (k+1)).flatMap Tok.row:=by rw[hl,List.flatMap_append]
   rw[<-hll,<-hlr]
   refine⟨.c (.sl l.length (l.flatMap Tok.row) none),[c2.cs],⟨c2,⟨l,rfl,aa,fun t h=>by
    rw[hl] at h
    rcases List.mem_append.1 h with h|h
    ·exact hT t (List.mem_of_mem_take h)
    ·exact hT t (List.mem_of_mem_drop h)⟩,rfl,i2⟩,am ?_⟩
   simp only[tt,seval,Cur.cs]
  ·try simp only[tt,seval]
   refine⟨.c (.sl L.length (L.flatMap Tok.row) none),[c2.cs],⟨c2,⟨L,rfl,aa,hT⟩,rfl,i2⟩,am ?_⟩
   simp only[tt,seval,Cur.cs]
 ·refine fun _=>ab (fun hlt=>?_) (fun hge=>?_)
  ·have hlt':k<L.length:=by omega
   refine CallQ.intro (xx c2 i2) ?_ ?_ ?_
   ·decide
   ·simp only[tt,seval,Cur.cs]
   rintro r os ⟨c3,⟨⟨tk,ts,ta⟩,rfl,hts⟩,rfl,i3⟩ hos
   simp only[tt,seval,Cur.cs,Tok.row]
   refine⟨aa,aa,by rw[cG cY];omega,?_⟩
   obtain⟨l,hl⟩:∃l,l=L.set k ⟨tk,ts,ta⟩:=⟨_,rfl⟩
   have hll:l.length=L.length:=by rw[hl,List.length_set]
   have hlr:l.flatMap Tok.row=(L.flatMap Tok.row).take (k*3)++D.lit (.int .i64 tk)::D.lit (.string ts)::D.lit (.int .i64 ta)::(L.flatMap Tok.row).drop (k*3+3):=by
    rw[hl,List.set_eq_take_append_cons_drop,if_pos hlt',List.flatMap_append,List.flatMap_cons,show k*3+3=(k+1)*3 by omega,jT cY,my cY]
    rfl
   rw[<-hlr,<-hll]
   refine⟨.c (.sl l.length (l.flatMap Tok.row) none),[c3.cs],⟨c3,⟨l,rfl,aa,fun t h=>by
    rw[hl] at h
    rcases List.mem_or_eq_of_mem_set h with h|h
    ·exact hT t h
    ·rw[h];exact hts⟩,rfl,i3⟩,am ?_⟩
   simp only[tt,seval,Cur.cs]
  ·try simp only[tt,seval]
   refine⟨.c (.sl L.length (L.flatMap Tok.row) none),[c2.cs],⟨c2,⟨L,rfl,aa,hT⟩,rfl,i2⟩,am ?_⟩
   simp only[tt,seval,Cur.cs]
 ·refine⟨.c (.sl L.length (L.flatMap Tok.row) none),[c2.cs],⟨c2,⟨L,rfl,aa,hT⟩,rfl,i2⟩,am ?_⟩
  simp only[tt,seval,Cur.cs]
end Go.Proofs.YtbodcedhmccenaaGreatDoor
