/-
  Every text yields a tree in order or a fault within it.
  Conditions: none.
-/
import Derived.Test.YtbodcedhmccenaaGreatDoorSV4
import Derived.Test.YtbodcedhmccenaaGreatDoorSH1
import Derived.Test.YtbodcedhmccenaaGreatDoorSK
set_option linter.unusedVariables false
set_option linter.unusedSimpArgs false
set_option linter.unusedSectionVars false
set_option maxRecDepth 8000
namespace Go.Proofs.YtbodcedhmccenaaGreatDoor
open Go Go.Dv Go.Cv
open Go.Vc (D d5 d6 cM bo)
theorem EV:ByteArray.empty=⟨#[]⟩:=rfl
theorem DI {e:Expr} {i:Nat} (hg:Rg e) (hz:szExpr e<=1000+2*i):Rg (nD 16 e)/\szExpr (nD 16 e)<=1000+2*(i+1):=by
 refine⟨.mk ⟨by show _<=(0:Int);omega,by show (0:Int)<=_;omega⟩ (fun x h=>by rw[List.mem_singleton.1 h];exact hg) (fun _ h=>by cases h) (fun _ h=>by cases h),?_⟩
 rw[nD,bQ,aC,bw]
 have e0:({ data:=#[] }:ByteArray).size=0:=rfl
 simp [lJ,bC,z0]
 omega
def H3 (r:S):Prop:=∃e:Expr,r = .ag (ar e.row)/\Rg e/\szExpr e<=1048576
set_option maxHeartbeats 4000000 in
theorem C1 (c:Cur) (h0:0<=c.i):Cl Tryz.prog 78 [.c (.p 9000 0)] [c.cs] (sj H3):=by
 refine ah ab false Tryz.func78 rfl (by kernel_rfl) ?_
 simp only[Tryz.f78,tt,seval]
 refine CallQ.intro (tV 0 c h0) ?_ ?_ ?_
 ·decide
 ·simp (maxSteps:=10000000) only[tt,seval,Cur.cs,bM]
 rintro r os ⟨c1,⟨⟨k1,p1,n1,v1,q1,m1,ks1,ss1⟩,rfl,he⟩,rfl,i1⟩ hos
 simp (maxSteps:=10000000) only[tt,seval,Cur.cs,bM,ae]
 refine CallQ.intro (aM c1 i1 3) ?_ ?_ ?_
 ·decide
 ·simp (maxSteps:=10000000) only[tt,seval,Cur.cs]
 rintro r os ⟨y,c2,rfl,rfl,hy,i2⟩ hos
 simp (maxSteps:=10000000) only[tt,seval,Cur.cs]
 have hy2:=hy.2 (by omega)
 obtain⟨n,hn⟩:∃n:Nat,(22:Int)+y=n:=⟨((22:Int)+y).toNat,by omega⟩
 rw[aq (n:=(22:Int)+y) (by omega) (by omega),hn]
 have hn2:n<=24:=by omega
 clear hn hy hy2
 have hsz0:=he.sz
 have hrg0:=he.rg
 clear he
 simp only[dN] at hsz0
 refine dLoop.gh [] ?_
 refine dLoop0.introR (fun f Lo p=>∃(i:Nat) (e:Expr),f 5=vi i/\i<=n/\(Rg e/\szExpr e<=1000+2*i)/\(Lo=[(9000,.str c2.cs),(3,.str (ar (e).row)),(2,.str [.v (.int .i64 0),.v (.int .i64 0),.v (.bool false),.v (.int .i64 0),.v (.int .i64 0),.v (.string ByteArray.empty),.v (.string ByteArray.empty),.v (.string ByteArray.empty),.v (.slice none 0 0),.v (.slice none 0 0)])]∨∃a,e=nD 16 a/\Lo=[(9000,.str c2.cs),(3,.str [.v (.int .i64 3),.v (.int .i64 16),.v (.bool false),.v (.int .i64 0),.v (.int .i64 0),.v (.string ByteArray.empty),.v (.string ByteArray.empty),.v (.string ByteArray.empty),.s 10017 1,.v (.slice none 0 0)]),(10017,.arr 52 1 ([a].flatMap Expr.row) none),(2,.str [.v (.int .i64 0),.v (.int .i64 0),.v (.bool false),.v (.int .i64 0),.v (.int .i64 0),.v (.string ByteArray.empty),.v (.string ByteArray.empty),.v (.string ByteArray.empty),.v (.slice none 0 0),.v (.slice none 0 0)])])/\p=none) (fun f _ _=>(n-bq (f 5)).toNat) [(9000,.str c2.cs),(3,.str (ar ((Expr.mk k1 p1 n1 v1 q1 m1 ks1 ss1)).row)),(2,.str [.v (.int .i64 0),.v (.int .i64 0),.v (.bool false),.v (.int .i64 0),.v (.int .i64 0),.v (.string ByteArray.empty),.v (.string ByteArray.empty),.v (.string ByteArray.empty),.v (.slice none 0 0),.v (.slice none 0 0)])] none ⟨by rw[ae];simp only[Cur.cs];exact ac rfl (ac rfl (ac rfl (al _))),an _,?_⟩ ?_
 ·simp (maxSteps:=10000000) only[tt,seval]
  exact⟨0,(Expr.mk k1 p1 n1 v1 q1 m1 ks1 ss1),rfl,Nat.zero_le _,⟨hrg0,by omega⟩,.inl rfl⟩
 ·rintro g' Lo p ⟨i,e,h5,hi,⟨hg,hz⟩,rfl|⟨a,rfl,rfl⟩,rfl⟩
  ·obtain⟨k1,p1,n1,v1,q1,m1,ks1,ss1⟩:=e
   rw[ae]
   simp (maxSteps:=10000000) only[tt,seval] at h5
   simp (maxSteps:=10000000) only[tt,seval,h5,Cur.cs,bM,Int.ofNat_lt]
   refine aa (fun hlt=>?_) (fun hge=>?_)
   ·try simp (maxSteps:=10000000) only[tt,seval,h5,Cur.cs,bM,Tok.row,Val.row]
    rw[f5 i (by omega)]
    refine⟨[.ren 17 10017],by decide,by decide,?_⟩
    simp (maxSteps:=10000000) only[tt,seval,mn]
    refine⟨[(9000,.str c2.cs),(3,.str [.v (.int .i64 3),.v (.int .i64 16),.v (.bool false),.v (.int .i64 0),.v (.int .i64 0),.v (.string ByteArray.empty),.v (.string ByteArray.empty),.v (.string ByteArray.empty),.s 10017 1,.v (.slice none 0 0)]),(10017,.arr 52 1 ([(Expr.mk k1 p1 n1 v1 q1 m1 ks1 ss1)].flatMap Expr.row) none),(2,.str [.v (.int .i64 0),.v (.int .i64 0),.v (.bool false),.v (.int .i64 0),.v (.int .i64 0),.v (.string ByteArray.empty),.v (.string ByteArray.empty),.v (.string ByteArray.empty),.v (.slice none 0 0),.v (.slice none 0 0)])],none,by simp only[ae,EV,List.flatMap_nil,List.flatMap_cons,List.append_nil,Cur.cs];exact ac rfl (ac rfl (ac rfl (ac rfl (al _)))),an _,⟨i+1,nD 16 (Expr.mk k1 p1 n1 v1 q1 m1 ks1 ss1),by simp,by omega,DI hg hz,.inr ⟨(Expr.mk k1 p1 n1 v1 q1 m1 ks1 ss1),rfl,rfl⟩,rfl⟩,by simp only[bq];omega⟩
   ·try simp (maxSteps:=10000000) only[tt,seval,h5,Cur.cs,bM,Tok.row,Val.row]
    refine⟨.ag (ar ((Expr.mk k1 p1 n1 v1 q1 m1 ks1 ss1)).row),[c2.cs],⟨c2,⟨_,rfl,hg,by omega⟩,rfl,i2⟩,ai ?_⟩
    simp (maxSteps:=10000000) only[tt,seval,ae,Cur.cs]
  ·skip
   simp (maxSteps:=10000000) only[tt,seval] at h5
   simp (maxSteps:=10000000) only[tt,seval,h5,Cur.cs,bM,Int.ofNat_lt]
   refine aa (fun hlt=>?_) (fun hge=>?_)
   ·try simp (maxSteps:=10000000) only[tt,seval,h5,Cur.cs,bM,Tok.row,Val.row]
    rw[f5 i (by omega)]
    refine⟨[.ren 17 10017],by decide,by decide,?_⟩
    simp (maxSteps:=10000000) only[tt,seval,mn]
    refine⟨[(9000,.str c2.cs),(3,.str [.v (.int .i64 3),.v (.int .i64 16),.v (.bool false),.v (.int .i64 0),.v (.int .i64 0),.v (.string ByteArray.empty),.v (.string ByteArray.empty),.v (.string ByteArray.empty),.s 10017 1,.v (.slice none 0 0)]),(10017,.arr 52 1 ([(nD 16 a)].flatMap Expr.row) none),(2,.str [.v (.int .i64 0),.v (.int .i64 0),.v (.bool false),.v (.int .i64 0),.v (.int .i64 0),.v (.string ByteArray.empty),.v (.string ByteArray.empty),.v (.string ByteArray.empty),.v (.slice none 0 0),.v (.slice none 0 0)])],none,by simp only[ae,EV,List.flatMap_nil,List.flatMap_cons,List.append_nil,List.length_nil,List.length_cons,nD,z0,bC,Cur.cs];exact ac rfl (ac rfl (ac rfl (ac rfl (al _)))),an _,⟨i+1,nD 16 (nD 16 a),by simp,by omega,DI hg hz,.inr ⟨(nD 16 a),rfl,rfl⟩,rfl⟩,by simp only[bq];omega⟩
   ·try simp (maxSteps:=10000000) only[tt,seval,h5,Cur.cs,bM,Tok.row,Val.row]
    refine⟨.ag (ar ((nD 16 a)).row),[c2.cs],⟨c2,⟨_,rfl,hg,by omega⟩,rfl,i2⟩,ai ?_⟩
    simp (maxSteps:=10000000) only[tt,seval,ae,nD,z0,bC,Cur.cs]
theorem En (full:Bool) {d:Nat} {e:Expr} (hd:d<=3) (h:DrE d e):qU full e (pd full e)/\Sm 60000 (pd full e):=by
 have hm:=ly hd
 rw[GR] at hm
 have hs:=wK full e h.fm h.rg
 have hn:=h.nn
 exact⟨om full e h.fm h.rg (Nat.le_trans h.sz (by omega)),hs.le (by omega)⟩
theorem wQ (bs:List Int):Eu Tryz.prog 77 [.c (.sl bs.length (bs.flatMap jR) none)] fun cs x=>∃(c:Cur) (e:Expr) (d:Nat),cs=c.cs/\0<=c.i/\x=(ar e.row,false)/\d<=3/\DrE d e:=by
 refine uZ ab Tryz.func77 rfl (by kernel_rfl) rfl ?_
 simp only[Tryz.f77,tt,seval]
 refine Dw (yC bs) (by decide) ?_
 rintro cs ⟨c,rfl,h0⟩
 simp (maxSteps:=10000000) only[tt,seval,Cur.cs,bM]
 refine eb (sk bs 4 (by omega)) ?_ ?_ ?_
 ·decide
 ·simp (maxSteps:=10000000) only[tt,seval]
 rintro r ⟨z,rfl,hz2,hz4⟩
 simp (maxSteps:=10000000) only[tt,seval]
 refine CallQ.intro (aM c h0 z) ?_ ?_ ?_
 ·decide
 ·simp (maxSteps:=10000000) only[tt,seval,Cur.cs]
 rintro r os ⟨y,c1,rfl,rfl,hy,i1⟩ hos
 simp (maxSteps:=10000000) only[tt,seval,Cur.cs]
 have hy2:=hy.2 (by omega)
 obtain⟨d,rfl⟩:∃d:Nat,y=d:=⟨y.toNat,by omega⟩
 have hd:d<=3:=by omega
 refine CallQ.intro ((ot d (by omega)).1 c1 i1) ?_ ?_ ?_
 ·decide
 ·simp (maxSteps:=10000000) only[tt,seval,Cur.cs]
 rintro r os ⟨c2,⟨⟨k1,p1,n1,v1,q1,m1,ks1,ss1⟩,rfl,he⟩,rfl,i2⟩ hos
 simp (maxSteps:=10000000) only[tt,seval,Cur.cs,ae]
 exact⟨_,rfl,rfl,c2,(Expr.mk k1 p1 n1 v1 q1 m1 ks1 ss1),d,rfl,i2,(by simp only[ae];rfl),hd,he⟩
set_option maxHeartbeats 8000000 in
theorem pf (bs:List Int):Cl Tryz.prog 24 [.c (.sl bs.length (bs.flatMap jR) none)] [] fun r _=>F6 r:=by
 refine ah ab false Tryz.func24 rfl (by kernel_rfl) ?_
 simp only[Tryz.f24,tt,seval]
 refine Dx (wQ bs) (by decide) ?_
 rintro cs x ⟨c,⟨k1,p1,n1,v1,q1,m1,ks1,ss1⟩,d,rfl,h0,rfl,hd,he⟩
 simp (maxSteps:=10000000) only[tt,seval,Cur.cs,bM,ae]
 refine CallQ.intro (aY c h0 24) ?_ ?_ ?_
 ·decide
 ·simp (maxSteps:=10000000) only[tt,seval,Cur.cs]
 rintro r os ⟨c3,⟨b3,rfl⟩,rfl,i3⟩ hos
 simp (maxSteps:=10000000) only[tt,seval,Cur.cs]
 refine aa (fun _=>?_) (fun _=>?_)
 ·try simp (maxSteps:=10000000) only[tt,seval,Cur.cs,bM,Tok.row]
  refine CallQ.intro (C1 c3 i3) ?_ ?_ ?_
  ·decide
  ·simp (maxSteps:=10000000) only[tt,seval,Cur.cs]
  rintro r os ⟨c4,⟨⟨k2,p2,n2,v2,q2,m2,ks2,ss2⟩,rfl,hg,hz⟩,rfl,i4⟩ hos
  simp (maxSteps:=10000000) only[tt,seval,Cur.cs,ae]
  have ct:=wP (Expr.mk k2 p2 n2 v2 q2 m2 ks2 ss2) hg hz
  have hs:=ny (im (Expr.mk k2 p2 n2 v2 q2 m2 ks2 ss2))
  rw[ae] at ct
  refine cZ (ct) ?_ ?_<;>simp (maxSteps:=10000000) only[tt,seval]
  exact⟨_,_,⟨_,rfl,by omega⟩,ak rfl⟩
 ·try simp (maxSteps:=10000000) only[tt,seval,Cur.cs,bM,Tok.row]
  refine CallQ.intro (aY c3 i3 40) ?_ ?_ ?_
  ·decide
  ·simp (maxSteps:=10000000) only[tt,seval,Cur.cs]
  rintro r os ⟨c4,⟨b4,rfl⟩,rfl,i4⟩ hos
  simp (maxSteps:=10000000) only[tt,seval,Cur.cs,bM]
  refine aa (fun _=>?_) (fun _=>?_)
  ·try simp (maxSteps:=10000000) only[tt,seval,Cur.cs,bM,Tok.row]
   refine dJ [18] ?_
   simp (maxSteps:=10000000) only[tt,seval]
   refine Call1.intro (dC c4 i4 [⟨#[41]⟩,⟨#[44,57,41]⟩] (by decide)) ?_ ?_ ?_
   ·decide
   ·simp (maxSteps:=10000000) only[tt,seval,Cur.cs,srow]
   rintro r os ⟨c5,⟨w,hw,rfl⟩,rfl,i5⟩ hos
   simp (maxSteps:=10000000) only[tt,seval,Cur.cs,srow]
   have hw2:=(by decide:∀w∈[⟨#[41]⟩,⟨#[44,57,41]⟩],w.size<=7) w hw
   rw[g6 (by (try simp only[ByteArray.size_append]);show 20+w.size<=_;omega)]
   simp (maxSteps:=10000000) only[tt,seval]
   exact⟨_,_,⟨_,rfl,by rw[ByteArray.size_append];show 20+w.size<=_;omega⟩,ak rfl⟩
  ·try simp (maxSteps:=10000000) only[tt,seval,Cur.cs,bM,Tok.row]
   refine dDrawn.intro [26,27,28,29] (.take 0 (.take 1 (.take 4 (.br 2 (.br 3 (.br 5 (.br 6 (.br 7 (.br 8 (.take 9 .done) .nobr) .nobr) .nobr) .nobr) (.br 5 (.take 3 (.br 6 (.br 7 (.br 8 (.take 9 .done) .nobr) .nobr) .nobr)) .nobr)) (.br 3 (.br 2 (.br 5 (.br 6 (.br 7 (.br 8 (.take 9 .done) .nobr) .nobr) .nobr) .nobr) (.br 5 (.br 2 (.br 6 (.br 7 (.br 8 (.take 9 .done) .nobr) .nobr) .nobr) .nobr) .nobr)) (.br 5 (.take 3 (.br 2 (.br 6 (.br 7 (.br 8 (.take 9 .done) .nobr) .nobr) .nobr) .nobr)) .nobr)))))) (by kernel_rfl) ?_
   simp (maxSteps:=10000000) only[tt,seval]
   all_goals try simp (maxSteps:=10000000) only[tt,seval,Cur.cs,bM,Tok.row]
   all_goals repeat' first|refine cj ?_ ?_|refine aO ?_ ?_
   all_goals
    refine CallQ.intro (aY c4 i4 6) ?_ ?_ ?_
    ·decide
    ·simp (maxSteps:=10000000) only[tt,seval,Cur.cs]
     decide
    rintro r os ⟨c5,⟨full,rfl⟩,rfl,i5⟩ hos
    simp (maxSteps:=10000000) only[tt,seval,Cur.cs,bM]
   all_goals repeat' first|refine gE ?_ ?_|refine cK ?_ ?_|refine cL ?_ ?_
   all_goals
    obtain⟨ce,hsm⟩:=En full hd he
    have hs1:=hsm.1
    have ce:=ce [] (by simp only[List.length_nil];omega)
    rw[ae,List.nil_append] at ce
    generalize pd full (Expr.mk k1 p1 n1 v1 q1 m1 ks1 ss1)=L0 at *
   all_goals repeat' first|refine cj ?_ ?_|refine aO ?_ ?_
   all_goals
    refine cZ (ce) ?_ ?_
    ·simp (maxSteps:=10000000) only[tt,seval]
     decide
    simp (maxSteps:=10000000) only[tt,seval]
   all_goals repeat' first|refine cj ?_ ?_|refine aO ?_ ?_
   all_goals
    refine dJ [10027] ?_
    simp (maxSteps:=10000000) only[tt,seval]
    refine Call1.intro (oT L0 (Nat.le_trans hsm.1 (by decide)) (fun t ht=>Nat.le_trans (hsm.2 t ht) (by decide)) c5 i5) ?_ ?_ ?_
    ·decide
    ·simp (maxSteps:=10000000) only[tt,seval,Cur.cs]
     decide
    rintro r os ⟨c6,⟨l,rfl,hl,hlt⟩,rfl,i6⟩ hos
    simp (maxSteps:=10000000) only[tt,seval,Cur.cs]
   all_goals repeat' first|refine cj ?_ ?_|refine aO ?_ ?_
   all_goals
    refine CallQ.intro (Cb c6 i6 l (Nat.le_trans hl (Nat.succ_le_succ (Nat.le_trans hsm.1 (by decide:60000<=99999)))) hlt) ?_ ?_ ?_
    ·decide
    ·simp (maxSteps:=10000000) only[tt,seval,Cur.cs]
     decide
    rintro r os ⟨c7,⟨s,rfl,hs⟩,rfl,i7⟩ hos
    simp (maxSteps:=10000000) only[tt,seval,Cur.cs]
   all_goals
    exact⟨_,_,⟨s,rfl,hs⟩,ak rfl⟩
end Go.Proofs.YtbodcedhmccenaaGreatDoor
set_option maxRecDepth 8000
namespace Go.Proofs.YtbodcedhmccenaaGreatDoor
open Go Go.Dv
open Go.Vc (D d5 d6 cM bo)
section
variable {B:List UInt8}
theorem C2 {i e:Nat} {b:UInt8} {t:Tok} (h:cB B i b=some (t,e)):t.at_=i:=by
 unfold cB at h
 split at h
 ·simp only[Option.some.injEq,Prod.mk.injEq] at h
  rw[<-h.1];split<;>rfl
 split at h
 ·simp only[Option.some.injEq,Prod.mk.injEq] at h
  rw[<-h.1]
 split at h
 ·obtain⟨x,_,hx⟩:=Option.map_eq_some_iff.1 h
  simp only[Prod.mk.injEq] at hx
  rw[<-hx.1]
 split at h
 ·obtain⟨x,_,hx⟩:=Option.map_eq_some_iff.1 h
  simp only[Prod.mk.injEq] at hx
  rw[<-hx.1]
 ·simp only[Option.some.injEq,Prod.mk.injEq] at h
  rw[<-h.1]
theorem C3 {i e:Nat} {b:UInt8} {t:Tok} (h:bk B i b=some (t,e)):t.at_=i:=by
 unfold bk at h
 split at h
 ·rename_i t' e' hr
  split at h
  ·simp only[Option.some.injEq,Prod.mk.injEq] at h
   rw[<-h.1];exact C2 hr
  ·cases h
 ·cases h
theorem yy:∀(n i:Nat) (l:List Tok) (r:List Tok ⊕ Nat),i<=B.length->(∀t∈l,0<=t.at_/\t.at_<=B.length)->oW B n i l=some r->(∀p,r = .inr p->p<=B.length)/\∀m,r = .inl m->∀t∈m,0<=t.at_/\t.at_<=B.length
 |0,i,l,r,_,_,h=>by cases h
 |n+1,i,l,r,hi,hl,h=>by
  obtain⟨p,ok,hp,h1,h2⟩:=eu (B:=B) (B.length+1) i hi (by omega)
  rw[oW,hp] at h
  simp only at h
  split at h
  ·obtain rfl:=Option.some.inj h
   exact⟨fun q e=>(by injection e with e;omega),fun m e=>(by cases e)⟩
  ·cases hb:B[p]? with
   |none=>
    rw[hb] at h
    obtain rfl:=Option.some.inj h
    exact⟨fun q e=>(by cases e),fun m e=>(by injection e with e;subst e;exact hl)⟩
   |some b=>
    rw[hb] at h
    simp only at h
    cases ho:bk B p b with
    |none=>
     rw[ho] at h
     obtain rfl:=Option.some.inj h
     exact⟨fun q e=>(by injection e with e;omega),fun m e=>(by cases e)⟩
    |some y=>
     obtain⟨t,e⟩:=y
     rw[ho] at h
     have hs:=hJ hb ho
     refine yy n e _ r hs.2.1 (fun x hx=>?_) h
     rcases List.mem_append.1 hx with hx|hx
     ·exact hl x hx
     ·obtain rfl:=List.mem_singleton.1 hx
      rw[C3 ho];omega
end
theorem Dm (s:ByteArray):(∀p,fw s = .inr p->p<=s.size)/\∀m,fw s = .inl m->∀t∈m,0<=t.at_/\t.at_<=s.size:=by
 by_cases hg:2000<s.size
 ·have e:fw s = .inr 2000:=by unfold fw;rw[if_pos (by omega)]
  rw[e]
  exact⟨fun p e=>(by injection e with e;omega),fun m e=>(by cases e)⟩
 ·obtain⟨l,hl⟩:∃l,l=s.data.toList:=⟨_,rfl⟩
  have hll:l.length=s.size:=by rw[hl];exact aD s
  obtain⟨rr,hrr⟩:=mK (B:=l) (l.length+1) 0 [] (by omega) (by omega)
  have e:fw s=rr:=by unfold fw;rw[if_neg (by omega),<-hl,hrr];rfl
  rw[e,<-hll]
  exact yy _ _ _ _ (Nat.zero_le _) (fun t ht=>by cases ht) hrr
theorem vB {α:Type} {z:α} {take:List Tok->α×Int} {ok:α->Bool} (s:ByteArray) :
 (0<=(fF z take ok s).2.2/\(fF z take ok s).2.2<=s.size)/\(fF z take ok s).2.1<=3/\((fF z take ok s).2.1=0->ok (fF z take ok s).1=true)/\((fF z take ok s).2.1≠0->(fF z take ok s).1=z):=by
 obtain⟨k1,k2⟩:=Dm s
 unfold fF
 split
 ·rename_i p hp
  have:=k1 p hp
  exact⟨⟨by simp only;omega,by simp only;omega⟩,(by show (1:Int)<=3;omega),fun h=>(by cases h),fun _=>rfl⟩
 ·rename_i L hl
  have hL:=k2 L hl
  simp only
  unfold qI
  by_cases h0:0<=(take L).2
  ·rw[if_pos h0,if_pos h0]
   refine⟨?_,(by show (2:Int)<=3;omega),fun h=>(by cases h),fun _=>rfl⟩
   show 0<=ms L s.size (take L).2/\ms L s.size (take L).2<=s.size
   unfold ms
   split
   ·rw[List.getD_eq_getElem?_getD,az (by omega),Option.getD_some]
    exact hL _ (aK _)
   ·omega
  ·rw[if_neg h0,if_neg h0]
   by_cases h1:ok (take L).1=true
   ·rw[if_pos h1,if_pos h1]
    exact⟨⟨Int.le_refl _,by simp only;omega⟩,(by show (0:Int)<=3;omega),fun _=>h1,fun h=>absurd rfl h⟩
   ·rw[if_neg h1,if_neg h1]
    exact⟨⟨Int.le_refl _,by simp only;omega⟩,(by show (3:Int)<=3;omega),fun h=>(by cases h),fun _=>rfl⟩
end Go.Proofs.YtbodcedhmccenaaGreatDoor
set_option maxRecDepth 8000
namespace Go.Proofs.YtbodcedhmccenaaGreatDoor
open Go Go.Dv Go.Cv
open Go.Vc (D d5 d6 cM bo)
theorem C4 {P:Expr->Prop} (hz:P zExpr) (h:∀L:List Tok,L.length<=2000->(∀t∈L,bg t=true)->P (bK L).1) (s:ByteArray):P (bj s).1:=by
 unfold bj fF
 split
 ·exact hz
 ·rename_i L hlx
  have:=h L (nq hlx).1 (nq hlx).2
  simp only
  split
  ·exact hz
  ·split
   ·exact this
   ·exact hz
theorem EW:szExpr zExpr=0:=by
 rw[zExpr,bQ,aC,bw]
 simp [lJ,bC,z0]
 decide
theorem zN (s:ByteArray):szExpr (bj s).1<=200000:=C4 (P:=fun x=>szExpr x<=200000) (by
 show szExpr zExpr<=200000
 rw[EW];decide) (fun L h1 h2=>qH (fun t ht=>yu (h2 t ht)) h1) s
set_option maxHeartbeats 8000000 in
theorem Dn (bs:List Int):Cl Tryz.prog 6 [.c (.sl bs.length (bs.flatMap jR) none)] [] fun r _=>r=vb true:=by
 refine ah ab false Tryz.func6 rfl (by kernel_rfl) ?_
 simp only[Tryz.f6,tt,seval]
 refine cZ (DJ bs) ?_ ?_<;>simp only[tt,seval]
 refine aa (fun hbig=>⟨_,_,rfl,ak rfl⟩) (fun hbig=>?_)
 refine eb (pf bs) ?_ ?_ ?_
 ·decide
 ·simp only[tt,seval]
 rintro r ⟨s,rfl,hs⟩
 simp only[tt,seval]
 have c1:=tL s
 have c2:=vw s
 have hsz:=zN s
 obtain⟨⟨p1,p2⟩,p3,p4,p5⟩:=vB (z:=zExpr) (take:=bK) (ok:=oh) s
 have p1:0<=(bj s).2.2:=p1
 have p2:(bj s).2.2<=s.size:=p2
 have p3:(bj s).2.1<=3:=p3
 have p4:(bj s).2.1=0->oh (bj s).1=true:=p4
 have p5:(bj s).2.1≠0->(bj s).1=zExpr:=p5
 have k1:=qB (bj s).1 (Nat.le_trans hsz (by omega))
 have k2:=s9 (bj s).1 (Nat.le_trans hsz (by omega))
 generalize (bj s).1=e at *
 generalize (bj s).2=f at *
 obtain⟨f1,f2⟩:=f
 simp only at p1 p2 p3 p4 p5
 have g1:decide (f2<0)=false:=au (by omega)
 by_cases hf:f1=0
 ·subst hf
  rw[p4 rfl] at k1 k2
  obtain⟨k1,p1,n1,v1,q1,m1,ks1,ss1⟩:=e
  simp only[ae,aw] at c1 c2 k1 k2
  refine eb (c1) ?_ ?_ ?_
  ·decide
  ·simp only[tt,seval]
  rintro r ⟨Fk,Fs,rfl⟩
  simp only[tt,seval,gQ]
  refine cZ (c2) ?_ ?_<;>simp only[tt,seval,gQ]
  rw[bS (by kernel_rfl) (DK 0 f2)]
  simp only[tt,seval,g1]
  refine fun _=>?_
  have g2:decide ((s.size:Int)<f2)=false:=au (by omega)
  have g3:((s.size:Int)<f2)=False:=eq_false (by omega)
  simp only[tt,seval,g3]
  refine cZ (k1) ?_ ?_<;>simp only[tt,seval]
  refine cZ (k2) ?_ ?_<;>simp only[tt,seval]
  exact⟨_,_,rfl,ak rfl⟩
 ·have kz:=yc 0 0 false ⟨0,0,⟨#[]⟩⟩ ⟨#[]⟩ ⟨#[]⟩ [] []
  rw[show dQ 0 0 false ⟨0,0,⟨#[]⟩⟩ ⟨#[]⟩ ⟨#[]⟩ ([]:List Expr).length ([]:List Query).length=true from rfl] at kz
  obtain rfl:=p5 hf
  clear k1 k2 p4 p5 hsz
  simp only[zExpr,bC,z0,ae,aw,List.length_nil,List.flatMap_nil] at c1 c2 kz
  refine eb (c1) ?_ ?_ ?_
  ·decide
  ·simp only[tt,seval]
  rintro r ⟨Fk,Fs,rfl⟩
  simp only[tt,seval,gQ,dm]
  refine cZ (c2) ?_ ?_<;>simp only[tt,seval,gQ,dm]
  rw[bS (by kernel_rfl) (DK f1 f2)]
  simp only[tt,seval,g1]
  refine fun _=>?_
  have g2:decide ((s.size:Int)<f2)=false:=au (by omega)
  have g3:((s.size:Int)<f2)=False:=eq_false (by omega)
  have h0:(f1=0)=False:=eq_false hf
  have h1:decide (f1=0)=false:=au hf
  have h3:decide (f1<=3)=true:=av p3
  have h4:(f1<=3)=True:=eq_true p3
  simp only[tt,seval,g3,h0,h4]
  refine cZ (kz) ?_ ?_<;>simp only[tt,seval,dm]
  exact⟨_,_,rfl,ak rfl⟩
end Go.Proofs.YtbodcedhmccenaaGreatDoor
set_option maxRecDepth 8000
namespace Go.Proofs.YtbodcedhmccenaaGreatDoor
open Go Go.Dv
open Go.Vc (D d5 d6 cM bo)
open Go.Cv
open Go.Vc (CellF ValsF aT vI)
theorem Do (bs:List Int) (w:World) (v0:Value) (F:List Nat) (hq:CellF w (.sl bs.length (bs.flatMap jR)) v0 F) (hG:GlW w (fun _=>False)):aT Tryz.prog 6=true/\Calls Tryz.prog 6 #[v0] w fun e w'=>∃v,e = .returned v/\v = .bool true/\Gr w w':=by
 obtain⟨hc,hk⟩:=Go.Cv.Cl.at (P:=Tryz.prog) (Dn bs) rfl (vs:=[v0]) (w:=w) ⟨yw hq,trivial⟩ hG
 refine⟨hc,hk.mono ?_⟩
 rintro e w' ⟨v,he,r,rfl,g,hres⟩
 exact⟨v,he,hres.val,g⟩
end Go.Proofs.YtbodcedhmccenaaGreatDoor
set_option maxRecDepth 8000
namespace Go.Proofs.YtbodcedhmccenaaGreatDoor
open Go Go.Dv Go.ChangeShapes Go.WideShapes Go.ChangeAt Go.RowKit
theorem wR {W:World} (hL:laidMetH Tryz.prog Rows.fnParsePlaceRow.laid W) (hs:W.ShapedOpen Tryz.prog):GlW W (fun _=>False):=by
 rw[MakeChecks.laidMetH_plain _ _ _ (by kernel_rfl)] at hL
 have h2:laidMet Tryz.prog ((((Rows.fnParsePlaceRow.laid.map (·.1)).getD 2 ""),Lib.tabData .u64 Lib.pow10Tab)::Rows.fnParsePlaceRow.laid.drop 3) W:=laidMet.tail (laidMet.tail hL)
 have h4:laidMet Tryz.prog (Rows.fnParsePlaceRow.laid.drop 4) W:=laidMet.tail (laidMet.tail h2)
 have h5:laidMet Tryz.prog (Rows.fnParsePlaceRow.laid.drop 5) W:=laidMet.tail h4
 obtain⟨a5,s5,v5,_⟩:=laid_sentinel (g:=2) (ti:=166) (tp:=296) (te:=298) (ts:=9) h4 (by kernel_rfl) (by kernel_rfl) Tryz.underlying166 tQ Tryz.underlying296 Tryz.underlying298 rfl rfl Tryz.underlying9 nv tP
 obtain⟨a4,s4,v4,_⟩:=laid_sentinel (g:=1) (ti:=166) (tp:=296) (te:=298) (ts:=9) h5 (by kernel_rfl) (by kernel_rfl) Tryz.underlying166 tQ Tryz.underlying296 Tryz.underlying298 rfl rfl Tryz.underlying9 nv tP
 exact C0 (t:=3) (zero:=#[.int .i64 0]) (by kernel_rfl) (Lib.tabIs_of_head (g:=3) (t:=292) (e:=277) (n:=20) (by kernel_rfl) (by kernel_rfl) Tryz.underlying292 Tryz.underlying277 (by kernel_rfl) (by kernel_rfl) h2) hs (of_decide_eq_true (by kernel_rfl)) (by kernel_rfl) rfl (by kernel_rfl) (by kernel_rfl) Tryz.underlying3 (by kernel_rfl) v4 (by kernel_rfl) v5
namespace fnParsePlace
open Go Go.Dv Go.ChangeShapes Go.WideShapes Go.ChangeAt Go.RowKit
set_option maxRecDepth 100000 in
theorem wS (os:Os) (started:os.Started) (H:Type) (enc:TypeId×Value->H) :
 ReturnsInHanded {} Tryz.checked os 6 .any (fun w args=>(Rows.fnParsePlaceSpec.pre enc Tryz.prog Tryz.f6 Rows.fnParsePlaceRow.domain false w args/\laidMetH Tryz.prog Rows.fnParsePlaceRow.laid w)/\sizedMet enc Tryz.prog Tryz.f6 (OpenSpec.ofChange Rows.fnParsePlaceSpec) false w args)
  (Rows.fnParsePlaceSpec.post enc Tryz.prog Tryz.f6 false true false false):=by
 refine gr (C:=Tryz.checked) (X:=fun w _=>laidMetH Tryz.prog Rows.fnParsePlaceRow.laid w) (fun _ _ _ hh h=>h.of_heap hh) own started (by as_aux_lemma=>kernel_rfl) Tryz.func6
  (ChangeSpec.witness_shaped (enc:=enc) (C:=Tryz.checked) (os:=os) (X:=fun w _=>laidMetH Tryz.prog Rows.fnParsePlaceRow.laid w) false (World.laidAll Tryz.prog os Rows.fnParsePlaceRow.laid) #[.slice none 0 0] 8 (World.laidAll_os _ _ _)
    (World.shaped_of_ZipB (by as_aux_lemma=>kernel_rfl) (by as_aux_lemma=>kernel_rfl)) (by as_aux_lemma=>kernel_rfl) (by as_aux_lemma=>kernel_rfl) (by as_aux_lemma=>kernel_rfl)
    (by rw[MakeChecks.laidMetH_plain _ _ _ (by as_aux_lemma=>kernel_rfl)];exact laidMet_laidAll _ (by as_aux_lemma=>kernel_rfl) (by as_aux_lemma=>kernel_rfl))) ?_
 intro W base args ds gs before hval0 hW _ hL hsh
 have hval:∀(j:Nat) t v,Tryz.f6.params[j]?=some t->args[j]?=some v->Value.okWide Tryz.prog W .any base t v:=hval0
 have hW':=hW
 obtain⟨p,q,hA0,hV,rfl,hfz,hnd⟩:=hW
 have hA:DataW.TrodAll enc Tryz.prog W 0 (fun _=>true) true Tryz.f6.params.toList args.toList ds p:=hA0
 rw[Tryz.params6] at hA hval
 obtain⟨v0,vs0,d0,ds0,p0,q0,hargs,rfl,rfl,h0,r0⟩:=trodAll_cons hA
 obtain⟨rfl,rfl,rfl⟩:=trodAll_nil r0
 obtain rfl:args = #[v0]:=by cases args;simp_all
 obtain⟨rfl,rfl⟩:=trodVars_none hV
 obtain⟨_,_,_,rfl⟩:=okWide_slice Tryz.underlying22 (hval 0 22 v0 rfl rfl)
 obtain⟨n0,t0⟩:=h0
 obtain⟨x,v,F0,ev,hx⟩:=qK t0
 obtain rfl:=List.head_eq_of_cons_eq ev
 clear hA0 hval0
 simp only[List.append_nil] at hW'
 have hlt:∀p∈p0,p.block<W.heap.size:=fun p hp=>hW'.lt p hp
 have hcall:Calls Tryz.prog 6 #[_] W fun e w'=>∃v,e = .returned v/\v = .bool true/\Go.Cv.Gr W w':=(Do x W _ F0 hx (wR hL hsh)).2
 refine hcall.mono fun e W' ⟨v,he,hr,g⟩=>?_
 have hb:Below W.heap.size W W':=⟨g.os,g.tape,g.output,g.size,g.keep⟩
 have hf:=si g
 subst he hr
 exact⟨_,rfl,vA (pa:=p0) (pv:=[]) hW' (fun _ _ _=>(trodAll_cons_mk (shut_bool Tryz.underlying4 _) trodAll_mk0))
  (fun sp hsp=>trodAll_mk1 (WideElems.Trod_stays (t:=22) yx (by as_aux_lemma=>kernel_rfl) (of_decide_eq_true (by as_aux_lemma=>kernel_rfl)) ⟨n0,t0⟩ (fun p hp=>hb.same (hlt p hp)) (fun p hp=>hsp p hp)))
  (fun _ _=>rfl) (by simp)
  (hb.frame _) hf (ok_one (by as_aux_lemma=>kernel_rfl) rfl (okWide_bool_mk Tryz.underlying4 _))⟩
set_option maxHeartbeats 4000000 in
theorem jf:joinedFacts Tryz.prog 6 Tryz.f6 Rows.fnParsePlaceSpec Rows.fnParsePlaceRow=true:=by
 unfold joinedFacts
 refine Bool.and_eq_true_iff.2 ⟨Bool.and_eq_true_iff.2 ⟨Bool.and_eq_true_iff.2 ⟨Bool.and_eq_true_iff.2 ⟨Bool.and_eq_true_iff.2 ⟨Bool.and_eq_true_iff.2 ⟨Bool.and_eq_true_iff.2 ⟨Bool.and_eq_true_iff.2 ⟨Bool.and_eq_true_iff.2 ⟨Bool.and_eq_true_iff.2 ⟨Bool.and_eq_true_iff.2 ⟨Bool.and_eq_true_iff.2 ⟨Bool.and_eq_true_iff.2 ⟨Bool.and_eq_true_iff.2 ⟨Bool.and_eq_true_iff.2 ⟨Bool.and_eq_true_iff.2 ⟨Bool.and_eq_true_iff.2 ⟨Bool.and_eq_true_iff.2 ⟨Bool.and_eq_true_iff.2 ⟨Bool.and_eq_true_iff.2 ⟨Bool.and_eq_true_iff.2 ⟨Bool.and_eq_true_iff.2 ⟨Bool.and_eq_true_iff.2 ⟨Bool.and_eq_true_iff.2 ⟨Bool.and_eq_true_iff.2 ⟨Bool.and_eq_true_iff.2 ⟨Bool.and_eq_true_iff.2 ⟨Bool.and_eq_true_iff.2 ⟨Bool.and_eq_true_iff.2 ⟨Bool.and_eq_true_iff.2 ⟨Bool.and_eq_true_iff.2 ⟨?_,?_⟩,?_⟩,?_⟩,?_⟩,?_⟩,?_⟩,?_⟩,?_⟩,?_⟩,?_⟩,?_⟩,?_⟩,?_⟩,?_⟩,?_⟩,?_⟩,?_⟩,?_⟩,?_⟩,?_⟩,?_⟩,?_⟩,?_⟩,?_⟩,?_⟩,?_⟩,?_⟩,?_⟩,?_⟩,?_⟩,?_⟩
 all_goals as_aux_lemma=>kernel_rfl
theorem qL:Tryz.prog.funcNamed Rows.fnParsePlaceRow.func=some 6:=by kernel_rfl
set_option maxHeartbeats 4000000 in
theorem over:Rows.fnParsePlaceRow.holds Tryz.pinned (OpenSpec.ofChange Rows.fnParsePlaceSpec):=
 OpenClaim.holds_of_wide 6 Tryz.f6 rfl rfl rfl rfl rfl rfl rfl ⟨rfl,rfl,rfl,rfl,rfl⟩ rfl rfl rfl rfl rfl qL Tryz.func6 jf
  (of_decide_eq_true (by as_aux_lemma=>kernel_rfl)) (by unfold Func.isWrapper;first|(rw[if_pos (by decide +kernel)];kernel_rfl)|(rw[if_neg (by decide +kernel)];exact⟨rfl,rfl⟩))
  (fun os started H enc _=>wS os started H enc)
set_option maxHeartbeats 4000000 in
theorem proved:Rows.FnParsePlaceCardSaid:=
 Claim7.holds_tied_plain_at .later [] [.data,.data,.data,.data,.sentinel,.sentinel,.pinned] true (true, "796f33dc7e0d93919cc3837bfc29ebaff7d323313d981385f8d76db43e74cc6c") true over (fun _ h=>by cases h) (by as_aux_lemma=>kernel_rfl) (fun _ h=>by cases h) fnParsePlace_row_tie rfl ⟨rfl,rfl⟩ (by as_aux_lemma=>kernel_rfl) rfl
  (fun f fn hf hfn=>by
    obtain rfl:f=6:=Option.some.inj (qL.symm.trans hf) |>.symm
    obtain rfl:fn=Tryz.f6:=(Option.some.inj (Tryz.func6.symm.trans hfn)).symm
    exact⟨by as_aux_lemma=>kernel_rfl,fun j t ht=>by
     rw[Tryz.params6] at ht
     have hm:t∈[22]:=by simpa using Array.mem_of_getElem? ht
     have hall:([22].all fun u=>!Tryz.prog.wantsStandIn u)=true:=by as_aux_lemma=>kernel_rfl
     exact (show Tryz.prog.wantsStandIn t=false by simpa using List.all_eq_true.1 hall t hm)⟩)
  (by as_aux_lemma=>kernel_rfl)
#print axioms proved
end fnParsePlace
end Go.Proofs.YtbodcedhmccenaaGreatDoor
