/-
  Draws of statements.
  Conditions: none.
-/
import Derived.Test.YtbodcedhmccenaaGreatDoorSJ3
import Derived.Test.YtbodcedhmccenaaGreatDoorSV2
set_option linter.unusedVariables false
set_option linter.unusedSimpArgs false
set_option linter.unusedSectionVars false
set_option maxRecDepth 8000
namespace Go.Proofs.YtbodcedhmccenaaGreatDoor
open Go Go.Dv
open Go.Vc (D d5 d6 cM bo)
def DrS (s:Stmt):Prop:=tF s=true/\FH s/\pH s<=1048576
theorem yD {s:Stmt} {d n:Nat} (hd:d<=3) (h:∀x,x∈cy s->DrE d x) (hl:(cy s).length<=n) (hn:n*dN d<=200):ET s=true:=by
 have h1:bI ((cy s).map dpE)<=24:=lw fun y hy=>by
  obtain⟨x,hx,rfl⟩:=List.mem_map.1 hy
  have:=(h x hx).dp;omega
 have h2:=cu (g:=ndE) fun x hx=>(h x hx).nn
 have h3:=Nat.mul_le_mul_right (dN d) hl
 unfold ET
 rw[av h1,av (by omega)];rfl
theorem DrS.sel {d:Nat} (hd:d<=3) {q:Query} (h:DrQ d q):DrS (.mk 1 q ⟨#[]⟩ [] [] [] []):=by
 have hm:=ly hd
 rw[GR] at hm
 have e:cy (.mk 1 q ⟨#[]⟩ [] [] [] [])=exprsQ q:=by simp [cy]
 refine⟨?_,⟨h.li,fun x hx=>(h.ex x (by rwa[e] at hx)).rg⟩,?_⟩
 ·unfold tF
  rw[yD (d:=d) (n:=5) hd (fun x hx=>h.ex x (by rwa[e] at hx)) (by rw[e];exact h.few) (by omega),Bool.true_and]
  simp [Ew,h.fm]
 ·have:=h.sz
  rw[gL,aC,eU]
  have e0:({ data:=#[] }:ByteArray).size=0:=rfl
  simp [iH]
  omega
theorem wW {l:List ByteArray} (h:∀c,c∈l->bt c=true):iH l<=21*l.length:=by
 have:=cu (g:=ByteArray.size) (b:=20) fun c hc=>nw (h c hc)
 unfold iH
 omega
theorem nx {d:Nat} (hd:d<=2) {l:List Expr} (h:∀x,x∈l->DrE d x):cx l<=l.length*2601:=by
 have hm:=ly hd
 rw[Fg] at hm
 have h2:=cu (g:=szExpr) (b:=2600) fun x hx=>Nat.le_trans (h x hx).sz (by omega)
 rw[aC]
 omega
theorem DrS.ins {d:Nat} (hd:d<=2) {t:ByteArray} {rows:List ERow} (ht:bt t=true) (h1:1<=rows.length) (h2:rows.length<=2) (hr:∀r,r∈rows->1<=r.l.length/\r.l.length<=3/\∀x,x∈r.l->DrE d x):DrS (.mk 2 (.mk false [] [] [] [] 0) t rows [] [] []):=by
 have hm:=ly hd
 rw[Fg] at hm
 have e:cy (.mk 2 (.mk false [] [] [] [] 0) t rows [] [] [])=rows.flatMap ERow.l:=by simp [cy,exprsQ,bd]
 have hx:∀x,x∈rows.flatMap ERow.l->DrE d x:=fun x hx=>by
  obtain⟨r,hr',hx⟩:=List.mem_flatMap.1 hx
  exact (hr r hr').2.2 x hx
 have hl:(rows.flatMap ERow.l).length<=6:=by
  have:=cu (g:=fun r:ERow=>r.l.length) (b:=3) fun r h=>(hr r h).2.1
  rw[List.length_flatMap]
  have e2:rows.length*3<=6:=by omega
  exact Nat.le_trans this e2
 refine⟨?_,⟨by show (0:Int)<=_;omega,fun x h=>(hx x (by rwa[e] at h)).rg⟩,?_⟩
 ·unfold tF
  rw[yD (d:=d) (n:=6) (by omega) (fun x h=>hx x (by rwa[e] at h)) (by rw[e];exact hl) (by omega),Bool.true_and]
  have ha:(rows.flatMap ERow.l).all fmE=true:=List.all_eq_true.2 fun x h=>(hx x h).fm
  have hb:rows.all Ev=true:=List.all_eq_true.2 fun r h=>by
   have:=hr r h
   simp only[Ev,decide_eq_true_eq];omega
  have hz:Fd (.mk false [] [] [] [] 0)=true:=rfl
  unfold Ew
  simp only[show ¬((2:Int)=1) by decide,if_false,hz,ht,e,ha,vt,if_true,hb]
  simp
  omega
 ·have hsz:∀r,r∈rows->jE r<=7803:=fun r h=>by
   have h3:=hr r h
   have:=nx hd h3.2.2
   rw[l8];omega
  have h5:=cu (g:=jE) hsz
  have:=nw ht
  have h6:=Nat.mul_le_mul_right 7803 h2
  rw[gL,aC,eU,cV,cU,bX,bN,aC]
  simp [iH]
  omega
theorem DrS.upd {d:Nat} (hd:d<=2) {t:ByteArray} {cols:List ByteArray} {sets wh:List Expr} (ht:bt t=true) (h1:1<=cols.length) (h2:cols.length<=2) (hc:∀c,c∈cols->bt c=true) (hs:sets.length=cols.length) (hx:∀x,x∈sets->DrE d x) (h3:wh.length<=1) (hw:∀x,x∈wh->DrE d x):DrS (.mk 3 (.mk false [] [] [] [] 0) t [] cols sets wh):=by
 have hm:=ly hd
 rw[Fg] at hm
 have e:cy (.mk 3 (.mk false [] [] [] [] 0) t [] cols sets wh)=sets++wh:=by simp [cy,exprsQ,bd]
 have hal:∀x,x∈sets++wh->DrE d x:=fun x h=>(List.mem_append.1 h).elim (hx x) (hw x)
 refine⟨?_,⟨by show (0:Int)<=_;omega,fun x h=>(hal x (by rwa[e] at h)).rg⟩,?_⟩
 ·unfold tF
  rw[yD (d:=d) (n:=3) (by omega) (fun x h=>hal x (by rwa[e] at h)) (by rw[e,aB];omega) (by omega),Bool.true_and]
  have ha:(sets++wh).all fmE=true:=List.all_eq_true.2 fun x h=>(hal x h).fm
  have hb:cols.all bt=true:=List.all_eq_true.2 hc
  have hz:Fd (.mk false [] [] [] [] 0)=true:=rfl
  unfold Ew
  simp only[show ¬((3:Int)=1) by decide,show ¬((3:Int)=2) by decide,if_false,hz,ht,e,ha,vt,if_true,hb]
  simp
  omega
 ·have s1:=wW hc
  have s2:=nx hd hx
  have s3:=nx hd hw
  have:=nw ht
  rw[gL,eU,cV,cU,bX,bN]
  have e0:cx []=0:=by rw[aC];rfl
  simp [e0]
  omega
theorem DrS.del {d:Nat} (hd:d<=2) {t:ByteArray} {wh:List Expr} (ht:bt t=true) (h3:wh.length<=1) (hw:∀x,x∈wh->DrE d x):DrS (.mk 4 (.mk false [] [] [] [] 0) t [] [] [] wh):=by
 have hm:=ly hd
 rw[Fg] at hm
 have e:cy (.mk 4 (.mk false [] [] [] [] 0) t [] [] [] wh)=wh:=by simp [cy,exprsQ,bd]
 refine⟨?_,⟨by show (0:Int)<=_;omega,fun x h=>(hw x (by rwa[e] at h)).rg⟩,?_⟩
 ·unfold tF
  rw[yD (d:=d) (n:=1) (by omega) (fun x h=>hw x (by rwa[e] at h)) (by rw[e];exact h3) (by omega),Bool.true_and]
  have ha:wh.all fmE=true:=List.all_eq_true.2 fun x h=>(hw x h).fm
  have hz:Fd (.mk false [] [] [] [] 0)=true:=rfl
  unfold Ew
  simp only[show ¬((4:Int)=1) by decide,show ¬((4:Int)=2) by decide,show ¬((4:Int)=3) by decide,if_false,hz,ht,e,ha,vt,if_true]
  simp
  omega
 ·have s3:=nx hd hw
  have:=nw ht
  rw[gL,eU,cV,cU,bX,bN]
  have e0:cx []=0:=by rw[aC];rfl
  simp [e0,iH]
  omega
def H7 (r:S):Prop:=∃s:Stmt,r = .ag (ar s.row)/\DrS s
set_option maxHeartbeats 16000000 in
theorem zQ (d:Nat) (hd:d<=2) (c:Cur) (h0:0<=c.i):Cl Tryz.prog 113 [.c (.p 9000 0),vi (d+1:Nat)] [c.cs] (sj H7):=by
 have hK:∀(n:Nat) (m:Int),m=n->n<=100->∀(c:Cur) (_:0<=c.i),Cl Tryz.prog 219 [.c (.p 9000 0),vi (d+1:Nat),vi m] [c.cs] (sj (FJ d n)):=fun n m hm hn c h0=>by
  subst hm
  exact oS d (by omega) (ot d (by omega)).1 n hn c h0
 have hQ:C9 (d+1):=(ot (d+1) (by omega)).2
 obtain⟨e,he⟩:∃e:Int,e=((d+1:Nat):Int):=⟨_,rfl⟩
 unfold C9 at hQ
 rw[<-he] at hK hQ ⊢
 refine ah ab false Tryz.func113 rfl (by kernel_rfl) ?_
 simp only[Tryz.f113,tt,seval]
 refine CallQ.intro (aM c h0 6) ?_ ?_ ?_
 ·decide
 ·simp (maxSteps:=10000000) only[tt,seval,Cur.cs,bM]
 rintro r os ⟨x,c2,rfl,rfl,hx,i2⟩ hos
 simp (maxSteps:=10000000) only[tt,seval,Cur.cs,bM]
 refine aa (fun hx0=>?_) (fun hx0=>aa (fun hx1=>?_) (fun hx1=>aa (fun hx2=>?_) (fun hx2=>?_)))
 ·try simp (maxSteps:=10000000) only[tt,seval,Cur.cs,bM,Val.row]
  refine CallQ.intro (aM c2 i2 2) ?_ ?_ ?_
  ·decide
  ·simp (maxSteps:=10000000) only[tt,seval,Cur.cs]
  rintro r os ⟨y,c3,rfl,rfl,hy,ic3⟩ hos
  simp (maxSteps:=10000000) only[tt,seval,Cur.cs]
  have hy2:=hy.2 (by omega)
  obtain⟨n0,hn0⟩:∃n0:Nat,(1:Int)+y=n0:=⟨((1:Int)+y).toNat,by omega⟩
  rw[aq (n:=(1:Int)+y) (by omega) (by omega),hn0]
  have hn01:1<=n0:=by omega
  have hn02:n0<=2:=by omega
  clear hn0 hy hy2
  refine dLoop.gh [.virtC 5 8 10038 28] ⟨by decide,?_⟩
  simp (maxSteps:=10000000) only[tt,seval]
  refine dLoop0.introR (fun f L p=>∃(i:Nat) (l:List ERow) (c':Cur) (F:Fp),f 7=vi i/\l.length=i/\i<=n0/\(∀r,r∈l->1<=r.l.length/\r.l.length<=3/\∀x,x∈r.l->DrE d x)/\0<=c'.i/\L=[(9000,.str c'.cs),(5,.str [.v (.int .i64 2),.v (.bool false),.v (.slice none 0 0),.v (.slice none 0 0),.v (.slice none 0 0),.v (.slice none 0 0),.v (.int .i64 0),.v (.string ByteArray.empty),.s 10038 (l).length,.v (.slice none 0 0),.v (.slice none 0 0),.v (.slice none 0 0)]),(10038,.arr 28 (l).length ((l).flatMap ERow.row) F),(4,.str [.v (.int .i64 0),.v (.bool false),.v (.slice none 0 0),.v (.slice none 0 0),.v (.slice none 0 0),.v (.slice none 0 0),.v (.int .i64 0),.v (.string ByteArray.empty),.v (.slice none 0 0),.v (.slice none 0 0),.v (.slice none 0 0),.v (.slice none 0 0)])]/\p=none) (fun f _ _=>(n0-bq (f 7)).toNat) [(9000,.str c3.cs),(5,.str [.v (.int .i64 2),.v (.bool false),.v (.slice none 0 0),.v (.slice none 0 0),.v (.slice none 0 0),.v (.slice none 0 0),.v (.int .i64 0),.v (.string ByteArray.empty),.s 10038 (([]:List ERow)).length,.v (.slice none 0 0),.v (.slice none 0 0),.v (.slice none 0 0)]),(10038,.arr 28 (([]:List ERow)).length ((([]:List ERow)).flatMap ERow.row) (some [])),(4,.str [.v (.int .i64 0),.v (.bool false),.v (.slice none 0 0),.v (.slice none 0 0),.v (.slice none 0 0),.v (.slice none 0 0),.v (.int .i64 0),.v (.string ByteArray.empty),.v (.slice none 0 0),.v (.slice none 0 0),.v (.slice none 0 0),.v (.slice none 0 0)])] none ⟨ac rfl (ac rfl (ac rfl (ac rfl (al _)))),an _,?_⟩ ?_
  ·simp (maxSteps:=10000000) only[tt,seval]
   exact⟨0,[],c3,some [],rfl,rfl,Nat.zero_le _,(fun x h=>by cases h),ic3,rfl⟩
  ·rintro g L p ⟨i,l,c4,F,h7,hl,hi,hal,i4,rfl,rfl⟩
   simp (maxSteps:=10000000) only[tt,seval] at h7
   simp (maxSteps:=10000000) only[tt,seval,h7,Int.ofNat_lt]
   refine aa (fun hlt=>?_) (fun hge=>?_)
   ·try simp (maxSteps:=10000000) only[seval,Cur.cs,bM]
    refine dDrawn.intro [34,36] (.take 0 (.take 2 (.take 3 (.take 4 (.br 1 (.br 5 (.take 6 (.br 7 (.br 8 (.br 9 (.take 10 (.br 11 .done .nobr)) .nobr) .nobr) .nobr)) .nobr) (.br 5 (.take 6 (.br 1 (.br 7 (.br 8 (.br 9 (.take 10 (.br 11 .done .nobr)) .nobr) .nobr) .nobr) (.br 7 (.take 1 (.br 8 (.br 9 (.take 10 (.br 11 .done .nobr)) .nobr) .nobr)) .nobr))) .nobr)))))) (by kernel_rfl) ?_
    simp (maxSteps:=10000000) only[tt,seval]
    all_goals try simp (maxSteps:=10000000) only[tt,seval,h7,Cur.cs,bM,Val.row]
    all_goals repeat' first|refine cj ?_ ?_|refine aO ?_ ?_
    all_goals
     refine CallQ.intro (aM c4 i4 3) ?_ ?_ ?_
     ·decide
     ·simp (maxSteps:=10000000) only[tt,seval,Cur.cs]
      decide
     rintro r os ⟨y,c5,rfl,rfl,hy,i5⟩ hos
     simp (maxSteps:=10000000) only[tt,seval,Cur.cs]
     have hy2:=hy.2 (by omega)
     obtain⟨m0,hn0⟩:∃m0:Nat,(1:Int)+y=m0:=⟨((1:Int)+y).toNat,by omega⟩
     rw[aq (n:=(1:Int)+y) (by omega) (by omega),hn0]
     have hm01:1<=m0:=by omega
     have hm2:m0<=3:=by omega
    all_goals repeat' first|refine cj ?_ ?_|refine aO ?_ ?_
    all_goals
     refine CallQ.intro (hK (m0) (m0) (rfl) (by omega) c5 i5) ?_ ?_ ?_
     ·decide
     ·simp (maxSteps:=10000000) only[tt,seval,Cur.cs]
      decide
     rintro r os ⟨c6,⟨lc6,rfl,hlc6,hac6⟩,rfl,ic6⟩ hos
     simp (maxSteps:=10000000) only[tt,seval,h7,Cur.cs]
    all_goals repeat' first|refine gE ?_ ?_|refine cK ?_ ?_|refine cL ?_ ?_
    all_goals
     refine⟨by kernel_rfl,⟨by simp only[maxLen];omega,by omega⟩,?_⟩
    all_goals
     try rw[f5 i (by omega)]
     refine⟨[.ren 38 10038],by decide,by decide,?_⟩
     simp (maxSteps:=10000000) only[tt,seval,mn]
     refine⟨[(9000,.str c6.cs),(5,.str [.v (.int .i64 2),.v (.bool false),.v (.slice none 0 0),.v (.slice none 0 0),.v (.slice none 0 0),.v (.slice none 0 0),.v (.int .i64 0),.v (.string ByteArray.empty),.s 10038 (l++[(ERow.mk lc6)]).length,.v (.slice none 0 0),.v (.slice none 0 0),.v (.slice none 0 0)]),(10038,.arr 28 (l++[(ERow.mk lc6)]).length ((l++[(ERow.mk lc6)]).flatMap ERow.row) none),(4,.str [.v (.int .i64 0),.v (.bool false),.v (.slice none 0 0),.v (.slice none 0 0),.v (.slice none 0 0),.v (.slice none 0 0),.v (.int .i64 0),.v (.string ByteArray.empty),.v (.slice none 0 0),.v (.slice none 0 0),.v (.slice none 0 0),.v (.slice none 0 0)])],none,by simp only[ERow.row_mk,List.append_nil,List.flatMap_append,List.flatMap_cons,List.flatMap_nil,aB,List.length_cons,List.length_nil,Cur.cs];exact ac rfl (ac rfl (ac rfl (ac rfl (al _)))),an _,⟨i+1,l++[(ERow.mk lc6)],c6,none,by simp,by simp [hl],by omega,fun x hx=>by
      rcases List.mem_append.1 hx with h|h
      ·exact hal x h
      ·rw[List.mem_singleton.1 h];exact⟨by show 1<=lc6.length;omega,by show lc6.length<=3;omega,hac6⟩,ic6,rfl,rfl⟩,by simp only[bq];omega⟩
   ·try simp (maxSteps:=10000000) only[seval,Cur.cs,bM]
    refine CallQ.intro (fG c4 i4) ?_ ?_ ?_
    ·decide
    ·simp (maxSteps:=10000000) only[tt,seval,Cur.cs]
    rintro r os ⟨cq,⟨tb,rfl,htb⟩,rfl,iq⟩ hos
    simp (maxSteps:=10000000) only[tt,seval,Cur.cs]
    refine⟨.ag (ar (Stmt.mk 2 (.mk false [] [] [] [] 0) tb l [] [] []).row),[cq.cs],⟨cq,⟨_,rfl,DrS.ins hd htb (by omega) (by omega) hal⟩,rfl,iq⟩,ai ?_⟩
    simp (maxSteps:=10000000) only[tt,seval,Stmt.row_mk,ay,Cur.cs]
 ·try simp (maxSteps:=10000000) only[tt,seval,Cur.cs,bM,Val.row]
  refine CallQ.intro (aM c2 i2 2) ?_ ?_ ?_
  ·decide
  ·simp (maxSteps:=10000000) only[tt,seval,Cur.cs]
  rintro r os ⟨y,c3,rfl,rfl,hy,ic3⟩ hos
  simp (maxSteps:=10000000) only[tt,seval,Cur.cs]
  have hy2:=hy.2 (by omega)
  obtain⟨n0,hn0⟩:∃n0:Nat,(1:Int)+y=n0:=⟨((1:Int)+y).toNat,by omega⟩
  rw[aq (n:=(1:Int)+y) (by omega) (by omega),hn0]
  have hn01:1<=n0:=by omega
  have hn02:n0<=2:=by omega
  clear hn0 hy hy2
  refine dLoop.gh [.virtC 5 9 10056 9] ⟨by decide,?_⟩
  simp (maxSteps:=10000000) only[tt,seval]
  refine dLoop0.introR (fun f L p=>∃(i:Nat) (l:List ByteArray) (c':Cur) (F:Fp),f 9=vi i/\l.length=i/\i<=n0/\(∀x,x∈l->bt x=true)/\0<=c'.i/\L=[(9000,.str c'.cs),(5,.str [.v (.int .i64 3),.v (.bool false),.v (.slice none 0 0),.v (.slice none 0 0),.v (.slice none 0 0),.v (.slice none 0 0),.v (.int .i64 0),.v (.string ByteArray.empty),.v (.slice none 0 0),.s 10056 (l).length,.v (.slice none 0 0),.v (.slice none 0 0)]),(10056,.arr 9 (l).length ((l).flatMap srow) F),(4,.str [.v (.int .i64 0),.v (.bool false),.v (.slice none 0 0),.v (.slice none 0 0),.v (.slice none 0 0),.v (.slice none 0 0),.v (.int .i64 0),.v (.string ByteArray.empty),.v (.slice none 0 0),.v (.slice none 0 0),.v (.slice none 0 0),.v (.slice none 0 0)])]/\p=none) (fun f _ _=>(n0-bq (f 9)).toNat) [(9000,.str c3.cs),(5,.str [.v (.int .i64 3),.v (.bool false),.v (.slice none 0 0),.v (.slice none 0 0),.v (.slice none 0 0),.v (.slice none 0 0),.v (.int .i64 0),.v (.string ByteArray.empty),.v (.slice none 0 0),.s 10056 (([]:List ByteArray)).length,.v (.slice none 0 0),.v (.slice none 0 0)]),(10056,.arr 9 (([]:List ByteArray)).length ((([]:List ByteArray)).flatMap srow) (some [])),(4,.str [.v (.int .i64 0),.v (.bool false),.v (.slice none 0 0),.v (.slice none 0 0),.v (.slice none 0 0),.v (.slice none 0 0),.v (.int .i64 0),.v (.string ByteArray.empty),.v (.slice none 0 0),.v (.slice none 0 0),.v (.slice none 0 0),.v (.slice none 0 0)])] none ⟨ac rfl (ac rfl (ac rfl (ac rfl (al _)))),an _,?_⟩ ?_
  ·simp (maxSteps:=10000000) only[tt,seval]
   exact⟨0,[],c3,some [],rfl,rfl,Nat.zero_le _,(fun x h=>by cases h),ic3,rfl⟩
  ·rintro g L p ⟨i,l,c4,F,h9,hl,hi,hal,i4,rfl,rfl⟩
   simp (maxSteps:=10000000) only[tt,seval] at h9
   simp (maxSteps:=10000000) only[tt,seval,h9,Int.ofNat_lt]
   refine aa (fun hlt=>?_) (fun hge=>?_)
   ·try simp (maxSteps:=10000000) only[seval,Cur.cs,bM]
    refine dDrawn.intro [54] (.take 0 (.take 2 (.br 1 (.br 3 (.br 4 (.br 5 (.take 6 (.br 7 .done .nobr)) .nobr) .nobr) .nobr) (.br 3 (.take 1 (.br 4 (.br 5 (.take 6 (.br 7 .done .nobr)) .nobr) .nobr)) .nobr)))) (by kernel_rfl) ?_
    simp (maxSteps:=10000000) only[tt,seval]
    all_goals try simp (maxSteps:=10000000) only[tt,seval,h9,Cur.cs,bM,Val.row]
    all_goals repeat' first|refine cj ?_ ?_|refine aO ?_ ?_
    all_goals
     refine CallQ.intro (fG c4 i4) ?_ ?_ ?_
     ·decide
     ·simp (maxSteps:=10000000) only[tt,seval,Cur.cs]
      decide
     rintro r os ⟨c5,⟨s5,rfl,hs5⟩,rfl,i5⟩ hos
     simp (maxSteps:=10000000) only[tt,seval,h9,Cur.cs,bM]
    all_goals repeat' first|refine gE ?_ ?_|refine cK ?_ ?_|refine cL ?_ ?_
    all_goals
     refine⟨by kernel_rfl,⟨by simp only[maxLen];omega,by omega⟩,?_⟩
    all_goals
     try rw[f5 i (by omega)]
     refine⟨[.ren 56 10056],by decide,by decide,?_⟩
     simp (maxSteps:=10000000) only[tt,seval,mn]
     refine⟨[(9000,.str c5.cs),(5,.str [.v (.int .i64 3),.v (.bool false),.v (.slice none 0 0),.v (.slice none 0 0),.v (.slice none 0 0),.v (.slice none 0 0),.v (.int .i64 0),.v (.string ByteArray.empty),.v (.slice none 0 0),.s 10056 (l++[s5]).length,.v (.slice none 0 0),.v (.slice none 0 0)]),(10056,.arr 9 (l++[s5]).length ((l++[s5]).flatMap srow) none),(4,.str [.v (.int .i64 0),.v (.bool false),.v (.slice none 0 0),.v (.slice none 0 0),.v (.slice none 0 0),.v (.slice none 0 0),.v (.int .i64 0),.v (.string ByteArray.empty),.v (.slice none 0 0),.v (.slice none 0 0),.v (.slice none 0 0),.v (.slice none 0 0)])],none,by simp only[srow,List.append_nil,List.flatMap_append,List.flatMap_cons,List.flatMap_nil,aB,List.length_cons,List.length_nil,Cur.cs];exact ac rfl (ac rfl (ac rfl (ac rfl (al _)))),an _,⟨i+1,l++[s5],c5,none,by simp,by simp [hl],by omega,fun x hx=>by
      rcases List.mem_append.1 hx with h|h
      ·exact hal x h
      ·rw[List.mem_singleton.1 h];exact hs5,i5,rfl,rfl⟩,by simp only[bq];omega⟩
   ·try simp (maxSteps:=10000000) only[seval,Cur.cs,bM]
    refine CallQ.intro (hK (n0) (n0) (rfl) (by omega) c4 i4) ?_ ?_ ?_
    ·decide
    ·simp (maxSteps:=10000000) only[tt,seval,Cur.cs]
    rintro r os ⟨cp,⟨lcp,rfl,hlcp,hacp⟩,rfl,icp⟩ hos
    simp (maxSteps:=10000000) only[tt,seval,Cur.cs]
    refine CallQ.intro (fG cp icp) ?_ ?_ ?_
    ·decide
    ·simp (maxSteps:=10000000) only[tt,seval,Cur.cs]
    rintro r os ⟨cq,⟨tb,rfl,htb⟩,rfl,iq⟩ hos
    simp (maxSteps:=10000000) only[tt,seval,Cur.cs]
    refine CallQ.intro (aY cq iq 2) ?_ ?_ ?_
    ·decide
    ·simp (maxSteps:=10000000) only[tt,seval,Cur.cs]
    rintro r os ⟨cr,⟨br,rfl⟩,rfl,ir⟩ hos
    simp (maxSteps:=10000000) only[tt,seval,Cur.cs]
    refine aa (fun hbr=>?_) (fun hbr=>?_)
    ·try simp (maxSteps:=10000000) only[tt,seval,Cur.cs,bM,Val.row]
     refine CallQ.intro (hK (1) (1) (rfl) (by omega) cr ir) ?_ ?_ ?_
     ·decide
     ·simp (maxSteps:=10000000) only[tt,seval,Cur.cs]
     rintro r os ⟨cs,⟨lcs,rfl,hlcs,hacs⟩,rfl,ics⟩ hos
     simp (maxSteps:=10000000) only[tt,seval,Cur.cs]
     refine⟨.ag (ar (Stmt.mk 3 (.mk false [] [] [] [] 0) tb [] l lcp lcs).row),[cs.cs],⟨cs,⟨_,rfl,DrS.upd hd htb (by omega) (by omega) hal (by omega) hacp (by omega) hacs⟩,rfl,ics⟩,ai ?_⟩
     simp (maxSteps:=10000000) only[tt,seval,Stmt.row_mk,ay,Cur.cs]
    ·try simp (maxSteps:=10000000) only[tt,seval,Cur.cs,bM,Val.row]
     refine⟨.ag (ar (Stmt.mk 3 (.mk false [] [] [] [] 0) tb [] l lcp []).row),[cr.cs],⟨cr,⟨_,rfl,DrS.upd hd htb (by omega) (by omega) hal (by omega) hacp (by simp) (fun x h=>by cases h)⟩,rfl,ir⟩,ai ?_⟩
     simp (maxSteps:=10000000) only[tt,seval,Stmt.row_mk,ay,Cur.cs]
 ·try simp (maxSteps:=10000000) only[tt,seval,Cur.cs,bM,Val.row]
  refine CallQ.intro (fG c2 i2) ?_ ?_ ?_
  ·decide
  ·simp (maxSteps:=10000000) only[tt,seval,Cur.cs]
  rintro r os ⟨cq,⟨tb,rfl,htb⟩,rfl,iq⟩ hos
  simp (maxSteps:=10000000) only[tt,seval,Cur.cs]
  refine CallQ.intro (aY cq iq 2) ?_ ?_ ?_
  ·decide
  ·simp (maxSteps:=10000000) only[tt,seval,Cur.cs]
  rintro r os ⟨cr,⟨br,rfl⟩,rfl,ir⟩ hos
  simp (maxSteps:=10000000) only[tt,seval,Cur.cs]
  refine aa (fun hbr=>?_) (fun hbr=>?_)
  ·try simp (maxSteps:=10000000) only[tt,seval,Cur.cs,bM,Val.row]
   refine CallQ.intro (hK (1) (1) (rfl) (by omega) cr ir) ?_ ?_ ?_
   ·decide
   ·simp (maxSteps:=10000000) only[tt,seval,Cur.cs]
   rintro r os ⟨cs,⟨lcs,rfl,hlcs,hacs⟩,rfl,ics⟩ hos
   simp (maxSteps:=10000000) only[tt,seval,Cur.cs]
   refine⟨.ag (ar (Stmt.mk 4 (.mk false [] [] [] [] 0) tb [] [] [] lcs).row),[cs.cs],⟨cs,⟨_,rfl,DrS.del hd htb (by omega) hacs⟩,rfl,ics⟩,ai ?_⟩
   simp (maxSteps:=10000000) only[tt,seval,Stmt.row_mk,ay,Cur.cs]
  ·try simp (maxSteps:=10000000) only[tt,seval,Cur.cs,bM,Val.row]
   refine⟨.ag (ar (Stmt.mk 4 (.mk false [] [] [] [] 0) tb [] [] [] []).row),[cr.cs],⟨cr,⟨_,rfl,DrS.del hd htb (by simp) (fun x h=>by cases h)⟩,rfl,ir⟩,ai ?_⟩
   simp (maxSteps:=10000000) only[tt,seval,Stmt.row_mk,ay,Cur.cs]
 ·try simp (maxSteps:=10000000) only[tt,seval,Cur.cs,bM,Val.row]
  refine CallQ.intro (hQ c2 i2) ?_ ?_ ?_
  ·decide
  ·simp (maxSteps:=10000000) only[tt,seval,Cur.cs]
  rintro r os ⟨c3,⟨⟨qd,qi,qf,qw,qo,ql⟩,rfl,hq⟩,rfl,i3⟩ hos
  simp (maxSteps:=10000000) only[tt,seval,Cur.cs,ay]
  refine⟨.ag (ar (Stmt.mk 1 (Query.mk qd qi qf qw qo ql) ⟨#[]⟩ [] [] [] []).row),[c3.cs],⟨c3,⟨_,rfl,DrS.sel (by omega) hq⟩,rfl,i3⟩,ai ?_⟩
  simp (maxSteps:=10000000) only[tt,seval,Stmt.row_mk,ay,Cur.cs]
def LsR (cs:List C) (x:List C×Bool):Prop:=∃(c:Cur) (l:List Tok),cs=c.cs/\0<=c.i/\x=([.sl l.length (l.flatMap Tok.row) none],true)/\l.length<=100000/\∀t∈l,t.text.size<=100
set_option maxHeartbeats 8000000 in
theorem zR (bs:List Int):Eu Tryz.prog 52 [.c (.sl bs.length (bs.flatMap jR) none)] LsR:=by
 refine uZ ab Tryz.func52 rfl (by kernel_rfl) rfl ?_
 simp only[Tryz.f52,tt,seval]
 refine Dw (yC bs) (by decide) ?_
 rintro cs ⟨c,rfl,h0⟩
 simp only[tt,seval,Cur.cs]
 refine eb (sk bs 3 (by omega)) ?_ ?_ ?_
 ·decide
 ·simp only[tt,seval]
 rintro r ⟨z,rfl,hz2,hz3⟩
 simp only[tt,seval]
 refine CallQ.intro (aM c h0 z) ?_ ?_ ?_
 ·decide
 ·simp only[tt,seval,Cur.cs]
 rintro r os ⟨y,c1,rfl,rfl,hy,i1⟩ hos
 simp only[tt,seval,Cur.cs]
 have hy2:=hy.2 (by omega)
 obtain⟨d,rfl⟩:∃d:Nat,y=d:=⟨y.toNat,by omega⟩
 have hd:d<=2:=by omega
 have e1:IntKind.i64.wrap ((1:Int)+(d:Int))=((d+1:Nat):Int):=by rw[aq (by omega) (by omega)];omega
 rw[e1]
 refine CallQ.intro (zQ d hd c1 i1) ?_ ?_ ?_
 ·decide
 ·simp only[tt,seval,Cur.cs]
 rintro r os ⟨c2,⟨⟨kind,⟨qd,qi,qf,qw,qo,ql⟩,table,rows,cols,sets,where2⟩,rfl,hs⟩,rfl,i2⟩ hos
 simp only[tt,seval,Cur.cs,bM,Stmt.row_mk,ay]
 refine dDrawn.intro [19,21] (.take 0 (.take 1 (.take 3 (.br 2 (.br 4 (.br 5 (.br 6 (.take 7 (.take 8 .done)) .nobr) .nobr) .nobr) (.br 4 (.take 2 (.br 5 (.br 6 (.take 7 (.take 8 .done)) .nobr) .nobr)) .nobr))))) (by kernel_rfl) ?_
 simp only[tt,seval]
 all_goals try simp only[tt,seval,Cur.cs,bM,Tok.row]
 all_goals repeat' first|refine cj ?_ ?_|refine aO ?_ ?_
 all_goals
  refine CallQ.intro (aY c2 i2 6) ?_ ?_ ?_
  ·decide
  ·simp only[tt,seval,Cur.cs]
   decide
  rintro r os ⟨c3,⟨full,rfl⟩,rfl,i3⟩ hos
  simp only[tt,seval,Cur.cs]
 all_goals repeat' first|refine gE ?_ ?_|refine cK ?_ ?_|refine cL ?_ ?_
 all_goals
  have cst:=zM full (Stmt.mk kind (Query.mk qd qi qf qw qo ql) table rows cols sets where2) hs.1 hs.2.1 hs.2.2
  have hsm:=DH full hs.1 hs.2.1
  rw[Stmt.row_mk,ay] at cst
  simp only[lc] at cst
  generalize oR (pd full) (Stmt.mk kind (Query.mk qd qi qf qw qo ql) table rows cols sets where2)=L0 at *
 all_goals repeat' first|refine cj ?_ ?_|refine aO ?_ ?_
 all_goals
  refine cZ (cst) ?_ ?_<;>simp only[tt,seval]
 all_goals repeat' first|refine cj ?_ ?_|refine aO ?_ ?_
 all_goals
  refine dJ [10020] ?_
  simp only[tt,seval]
  refine Call1.intro (oT L0 (Nat.le_trans hsm.1 (by decide)) (fun t ht=>Nat.le_trans (hsm.2 t ht) (by decide)) c3 i3) ?_ ?_ ?_
  ·decide
  ·simp only[tt,seval,Cur.cs]
   decide
  rintro r os ⟨c4,⟨l,rfl,hl,hlt⟩,rfl,i4⟩ hos
  simp only[tt,seval,Cur.cs]
 all_goals
  exact⟨_,rfl,rfl,c4,l,rfl,i4,rfl,Nat.le_trans hl (Nat.succ_le_succ (Nat.le_trans hsm.1 (by decide:60000<=99999))),hlt⟩
set_option maxHeartbeats 4000000 in
theorem qQ (bs:List Int):Cl Tryz.prog 12 [.c (.sl bs.length (bs.flatMap jR) none)] [] (fun r _=>∃l:List Tok,r = .c (.sl l.length (l.flatMap Tok.row) none)/\l.length<=100000/\∀t∈l,t.text.size<=100):=by
 refine ah ab false Tryz.func12 rfl (by kernel_rfl) ?_
 simp only[Tryz.f12,tt,seval]
 refine Dx (zR bs) (by decide) ?_
 rintro cs x ⟨c,l,rfl,h0,rfl,hl,hlt⟩
 simp only[tt,seval,Cur.cs]
 refine⟨.c (.sl l.length (l.flatMap Tok.row) none),[],⟨l,rfl,hl,hlt⟩,ai ?_⟩
 simp only[tt,seval]
end Go.Proofs.YtbodcedhmccenaaGreatDoor
