/-
  Statements: the parsers.
  Conditions: none.
-/
import Derived.Test.YteffjmaadkkmeaaGreatDoorRPC2
import Derived.Test.YteffjmaadkkmeaaGreatDoorRPD2
set_option linter.unusedVariables false
set_option linter.unusedSimpArgs false
set_option linter.unusedSectionVars false
set_option maxRecDepth 8000
namespace Go.Proofs.YteffjmaadkkmeaaGreatDoor
open Go Go.Dv
open Go.Vc (D cY d3 cN bk)
def GO (L:List Tok) (m:PM ERow):Prop:=∀s x s',m s=some (ERow.mk x,s')->s.a<=L.length->Cl Tryz.prog 170 [.c (.p 9000 0)] [PB L s] fun r os=>r = .c (.sl x.length (x.flatMap Expr.row) none)/\os=[PB L s']
set_option maxHeartbeats 2000000 in
theorem oU (L:List Tok) (hL:L.length<=1048576) (hT:∀t∈L,t.text.size<=1048576) {f:Nat->PM Expr} (ok:∀lv,OkM (L:=L) (f lv)) (hf1:mj L 39 [vi 1] (f 1)):GO L (lC L f):=by
 intro s x s' h ha
 unfold lC at h
 split at h
 ·cases h
 rename_i l t hl
 obtain⟨rfl,rfl⟩:l=x/\must (b3 L t 41) t=s':=by
  injection h with h;injection h with h1 h2;injection h1 with h1;exact⟨h1,h2⟩
 clear h
 refine ae ab false Tryz.func170 rfl (by kernel_rfl) ?_
 simp only[Tryz.f170,tt,seval]
 refine cS (bj L hL hT s 40 ha) ?_ ?_<;>simp only[tt,seval,PB]
 refine cS (aM L hL hT s (b3 L s 40) (fun h=>aD h)) ?_ ?_<;>simp only[tt,seval,PB]
 have o1:Ok L s (must (b3 L s 40) s):=Ok.must fun h=>aD h
 have ha1:=o1.2.1 ha
 generalize must (b3 L s 40) s=u at *
 unfold ju at hl
 split at hl
 ·cases hl
 rename_i y u1 hy
 have ha2:=(ok 1 _ _ _ hy).2.1 ha1
 obtain⟨k1,p1,n1,v1,q1,m1,ks1,ss1⟩:=y
 have c1:=hf1 _ _ _ hy ha1
 rw[ah] at c1
 refine cS (c1) ?_ ?_<;>simp only[tt,seval,PB]
 refine dLoop.gh [.ren 10 19] ⟨by decide,by decide,?_⟩
 refine dLoop0.intro (fun f' Lo p=>∃(m:List Expr) (v:PS) (n:Nat),f' 3 = .c (.s 19 m.length)/\dy L (f 1) n m v=some (l,t)/\v.a<=L.length/\m.length<=v.a+1/\Lo=[(9000,.str (PB L v)),(19,.arr 29 (m).length ((m).flatMap Expr.row) none)]/\p=none) (fun _ Lo _=>L.length-vS Lo) [(9000,.str (PB L u1)),(19,.arr 29 ([(Expr.mk k1 p1 n1 v1 q1 m1 ks1 ss1)]).length (([(Expr.mk k1 p1 n1 v1 q1 m1 ks1 ss1)]).flatMap Expr.row) none)] none ⟨by simp only[PB,ah,List.flatMap_nil,List.flatMap_cons,List.append_nil,List.length_nil,List.length_cons];exact ac rfl (ac rfl (ak _)),al _,?_⟩ ?_
 ·simp only[tt,seval]
  exact⟨[(Expr.mk k1 p1 n1 v1 q1 m1 ks1 ss1)],u1,L.length+1,rfl,hl,ha2,by simp,rfl⟩
 ·rintro g' Lo p ⟨m,v,n,h3,hm,hv,hml,rfl,rfl⟩
  simp only[tt,seval] at h3
  simp only[tt,seval]
  refine cS (bj L hL hT v 44 hv) ?_ ?_<;>simp only[tt,seval,PB]
  cases n with
  |zero=>cases hm
  |succ n=>
  rw[dy] at hm
  cases c44:b3 L v 44 with
  |true=>
   rw[if_pos c44] at hm
   split at hm
   ·cases hm
   rename_i z w hz
   have hlt:=(aD c44).2
   have hav:=aR (L:=L) (aD c44)
   have o3:=ok 1 _ _ _ hz
   have o3a:v.a+1<=w.a:=o3.1
   have hw:=o3.2.1 hav
   obtain⟨k2,p2,n2,v2,q2,m2,ks2,ss2⟩:=z
   have c2:=hf1 _ _ _ hz hav
   rw[ah] at c2
   simp only[tt,seval]
   refine cS (aM L hL hT v true (fun _=>aD c44)) ?_ ?_<;>simp only[tt,seval,PB,sF,h3]
   refine cS (c2) ?_ ?_<;>simp only[tt,seval,PB]
   refine⟨by kernel_rfl,⟨by simp only[maxLen];omega,by omega⟩,?_⟩
   refine⟨[(9000,.str (PB L w)),(19,.arr 29 ((m++[(Expr.mk k2 p2 n2 v2 q2 m2 ks2 ss2)])).length (((m++[(Expr.mk k2 p2 n2 v2 q2 m2 ks2 ss2)])).flatMap Expr.row) none)],none,by simp only[PB,ah,List.flatMap_nil,List.flatMap_cons,List.append_nil,List.length_nil,List.length_cons,List.flatMap_append,aA];exact ac rfl (ac rfl (ak _)),al _,⟨m++[(Expr.mk k2 p2 n2 v2 q2 m2 ks2 ss2)],w,n,by simp,hm,hw,by simp;omega,rfl,rfl⟩,?_⟩
   show L.length-((w.a:Int)).toNat<L.length-((v.a:Int)).toNat
   omega
  |false=>
   rw[if_neg (by rw[c44];simp)] at hm
   injection hm with hm;injection hm with e1 e2;subst e1 e2
   simp only[tt,seval]
   refine cS (bj L hL hT v 41 hv) ?_ ?_<;>simp only[tt,seval,PB]
   refine cS (aM L hL hT v (b3 L v 41) (fun h=>aD h)) ?_ ?_<;>simp only[tt,seval,PB,h3]
   refine⟨.c (.sl m.length (m.flatMap Expr.row) none),[PB L (must (b3 L v 41) v)],⟨rfl,rfl⟩,am ?_⟩
   simp only[tt,seval,PB]
set_option maxHeartbeats 4000000 in
theorem qD (L:List Tok) (hL:L.length<=1048576) (hT:∀t∈L,t.text.size<=1048576) {f:Nat->PM Expr} (ok:∀lv,OkM (L:=L) (f lv)) (hf1:mj L 39 [vi 1] (f 1)) (s:PS) (x:Stmt) (s':PS) (h:gE L f s=some (x,s')) (ha:s.a<=L.length):Cl Tryz.prog 112 [.c (.p 9000 0)] [PB L s] fun r os=>r = .ag (av x.row)/\os=[PB L s']:=by
 unfold gE at h
 simp only at h
 refine ae ab false Tryz.func112 rfl (by kernel_rfl) ?_
 simp only[Tryz.f112,tt,seval]
 refine cS (cO L hL hT s 24 (by omega) (by omega) ha) ?_ ?_<;>simp only[tt,seval,PB]
 refine cS (aM L hL hT s (au L s 24) (fun h=>aq h)) ?_ ?_<;>simp only[tt,seval,PB]
 have o1:Ok L s (must (au L s 24) s):=Ok.must fun h=>aq h
 have ha1:=o1.2.1 ha
 generalize must (au L s 24) s=u1 at *
 refine cS (cM L hL hT u1 2 (by omega) ha1) ?_ ?_<;>simp only[tt,seval,PB]
 have ha2:=(Ok.mText (L:=L) 2 u1).2.1 ha1
 generalize (mText L 2 u1).2=u2 at *
 generalize (mText L 2 u1).1=tab at *
 refine cS (cO L hL hT u2 25 (by omega) (by omega) ha2) ?_ ?_<;>simp only[tt,seval,PB]
 refine cS (aM L hL hT u2 (au L u2 25) (fun h=>aq h)) ?_ ?_<;>simp only[tt,seval,PB]
 have o3:Ok L u2 (must (au L u2 25) u2):=Ok.must fun h=>aq h
 have ha3:=o3.2.1 ha2
 generalize must (au L u2 25) u2=u3 at *
 split at h
 ·cases h
 rename_i rs s3 hrs
 injection h with h;injection h with h1 h2;subst h1 h2
 unfold lP at hrs
 split at hrs
 ·cases hrs
 rename_i r1 v1 hr1
 obtain⟨l1⟩:=r1
 have c1:=oU L hL hT ok hf1 _ _ _ hr1 ha3
 have hav1:=(OkM.row ok _ _ _ hr1).2.1 ha3
 apply du 0 2 3
 case h1=>
  refine dDrawn.intro [18] (.take 0 (.take 2 (.br 1 (.br 3 (.br 4 (.br 5 (.take 6 (.br 7 .done .nobr)) .nobr) .nobr) .nobr) (.br 3 (.take 1 (.br 4 (.br 5 (.take 6 (.br 7 .done .nobr)) .nobr) .nobr)) .nobr)))) (by kernel_rfl) ?_
  simp only[tt,seval]
  all_goals repeat' first|refine cJ ?_ ?_|refine b7 ?_ ?_
  all_goals
   refine cS (c1) ?_ ?_
   ·simp only[tt,seval,PB]
    decide
   simp only[tt,seval,PB]
  all_goals repeat' first|refine jU ?_ ?_|refine dR ?_ ?_|refine dS ?_ ?_
  all_goals
   refine⟨by kernel_rfl,⟨by simp only[maxLen];omega,by omega⟩,?_⟩
  all_goals exact⟨rfl,rfl,rfl,rfl,rfl⟩
 case h2=>
  intro f' hj0 hj1 hj2
  simp only[tt,seval]
  refine dLoop.gh [.ren 20 31] ⟨by decide,by decide,?_⟩
  refine dLoop0.intro (fun f' Lo p=>∃(m:List ERow) (v:PS) (n:Nat),dy L (lC L f) n m v=some (rs,s3)/\v.a<=L.length/\m.length<=v.a+1/\Lo=[(9000,.str (PB L v)),(3,.str [.v (.int .i64 2),.v (.bool false),.v (.slice none 0 0),.v (.slice none 0 0),.v (.slice none 0 0),.v (.slice none 0 0),.v (.int .i64 0),.v (.string tab),.s 31 (m).length,.v (.slice none 0 0),.v (.slice none 0 0),.v (.slice none 0 0)]),(31,.arr 26 (m).length ((m).flatMap ERow.row) none),(2,.str [.v (.int .i64 0),.v (.bool false),.v (.slice none 0 0),.v (.slice none 0 0),.v (.slice none 0 0),.v (.slice none 0 0),.v (.int .i64 0),.v (.string ByteArray.empty),.v (.slice none 0 0),.v (.slice none 0 0),.v (.slice none 0 0),.v (.slice none 0 0)])]/\p=none) (fun _ Lo _=>L.length-vS Lo) [(9000,.str (PB L v1)),(3,.str [.v (.int .i64 2),.v (.bool false),.v (.slice none 0 0),.v (.slice none 0 0),.v (.slice none 0 0),.v (.slice none 0 0),.v (.int .i64 0),.v (.string tab),.s 31 ([ERow.mk l1]).length,.v (.slice none 0 0),.v (.slice none 0 0),.v (.slice none 0 0)]),(31,.arr 26 ([ERow.mk l1]).length (([ERow.mk l1]).flatMap ERow.row) none),(2,.str [.v (.int .i64 0),.v (.bool false),.v (.slice none 0 0),.v (.slice none 0 0),.v (.slice none 0 0),.v (.slice none 0 0),.v (.int .i64 0),.v (.string ByteArray.empty),.v (.slice none 0 0),.v (.slice none 0 0),.v (.slice none 0 0),.v (.slice none 0 0)])] none ⟨by simp only[dx,PB,List.flatMap_nil,List.flatMap_cons,List.append_nil,List.length_nil,List.length_cons,ERow.row_mk];exact ac rfl (ac rfl (ac rfl (ac rfl (ak _)))),al _,?_⟩ ?_
  ·simp only[tt,seval]
   exact⟨[ERow.mk l1],v1,L.length+1,hrs,hav1,by simp,rfl⟩
  ·rintro g' Lo p ⟨m,v,n,hm,hv,hml,rfl,rfl⟩
   simp only[tt,seval,hj0]
   refine cS (bj L hL hT v 44 hv) ?_ ?_<;>simp only[tt,seval,PB,hj0,hj1,hj2]
   cases n with
   |zero=>cases hm
   |succ n=>
   rw[dy] at hm
   cases c44:b3 L v 44 with
   |true=>
    rw[if_pos c44] at hm
    split at hm
    ·cases hm
    rename_i z w hz
    have hlt:=(aD c44).2
    have hav:=aR (L:=L) (aD c44)
    have o3:=OkM.row ok _ _ _ hz
    have o3a:v.a+1<=w.a:=o3.1
    have hw:=o3.2.1 hav
    obtain⟨l2⟩:=z
    have c2:=oU L hL hT ok hf1 _ _ _ hz hav
    simp only[tt,seval]
    refine cS (aM L hL hT v true (fun _=>aD c44)) ?_ ?_<;>simp only[tt,seval,PB,sF]
    apply bo 3
    case h1=>
     refine dDrawn.intro [29] (.take 0 (.take 2 (.br 1 (.br 3 (.br 4 (.br 5 (.take 6 (.br 7 .done .nobr)) .nobr) .nobr) .nobr) (.br 3 (.take 1 (.br 4 (.br 5 (.take 6 (.br 7 .done .nobr)) .nobr) .nobr)) .nobr)))) (by kernel_rfl) ?_
     simp only[tt,seval]
     all_goals try simp only[tt,seval,hj0,hj2]
     all_goals repeat' first|refine cJ ?_ ?_|refine b7 ?_ ?_
     all_goals
      refine cS (c2) ?_ ?_
      ·simp only[tt,seval,PB]
       decide
      simp only[tt,seval,PB,hj2]
     all_goals repeat' first|refine jU ?_ ?_|refine dR ?_ ?_|refine dS ?_ ?_
     all_goals
      refine⟨by kernel_rfl,⟨by simp only[maxLen];omega,by omega⟩,?_⟩
     all_goals exact⟨rfl,rfl,rfl⟩
    case h2=>
     intro f' hk0
     refine⟨[(9000,.str (PB L w)),(3,.str [.v (.int .i64 2),.v (.bool false),.v (.slice none 0 0),.v (.slice none 0 0),.v (.slice none 0 0),.v (.slice none 0 0),.v (.int .i64 0),.v (.string tab),.s 31 ((m++[ERow.mk l2])).length,.v (.slice none 0 0),.v (.slice none 0 0),.v (.slice none 0 0)]),(31,.arr 26 ((m++[ERow.mk l2])).length (((m++[ERow.mk l2])).flatMap ERow.row) none),(2,.str [.v (.int .i64 0),.v (.bool false),.v (.slice none 0 0),.v (.slice none 0 0),.v (.slice none 0 0),.v (.slice none 0 0),.v (.int .i64 0),.v (.string ByteArray.empty),.v (.slice none 0 0),.v (.slice none 0 0),.v (.slice none 0 0),.v (.slice none 0 0)])],none,by simp only[dx,PB,List.flatMap_nil,List.flatMap_cons,List.append_nil,List.length_nil,List.length_cons,List.flatMap_append,aA,ERow.row_mk];exact ac rfl (ac rfl (ac rfl (ac rfl (ak _)))),al _,⟨m++[ERow.mk l2],w,n,hm,hw,by simp;omega,rfl,rfl⟩,?_⟩
     show L.length-((w.a:Int)).toNat<L.length-((v.a:Int)).toNat
     omega
   |false=>
    rw[if_neg (by rw[c44];simp)] at hm
    injection hm with hm;injection hm with e1 e2;subst e1 e2
    simp only[tt,seval]
    refine⟨.ag (av (Stmt.mk 2 zQuery tab m [] [] []).row),[PB L v],⟨rfl,rfl⟩,am ?_⟩
    simp only[tt,seval,Stmt.row_mk,ar,zQuery,PB,ar,PB]
set_option maxHeartbeats 8000000 in
theorem qE (L:List Tok) (hL:L.length<=1048576) (hT:∀t∈L,t.text.size<=1048576) {f:Nat->PM Expr} (ok:∀lv,OkM (L:=L) (f lv)) (hf1:mj L 39 [vi 1] (f 1)) (s:PS) (x:Stmt) (s':PS) (h:gF L f s=some (x,s')) (ha:s.a<=L.length):Cl Tryz.prog 113 [.c (.p 9000 0)] [PB L s] fun r os=>r = .ag (av x.row)/\os=[PB L s']:=by
 unfold gF at h
 simp only at h
 refine ae ab false Tryz.func113 rfl (by kernel_rfl) ?_
 simp only[Tryz.f113,tt,seval]
 refine cS (cM L hL hT s 2 (by omega) ha) ?_ ?_<;>simp only[tt,seval,PB]
 have ha1:=(Ok.mText (L:=L) 2 s).2.1 ha
 generalize (mText L 2 s).2=u0 at *
 generalize (mText L 2 s).1=tab at *
 refine cS (cO L hL hT u0 27 (by omega) (by omega) ha1) ?_ ?_<;>simp only[tt,seval,PB]
 refine cS (aM L hL hT u0 (au L u0 27) (fun h=>aq h)) ?_ ?_<;>simp only[tt,seval,PB]
 have o1:Ok L u0 (must (au L u0 27) u0):=Ok.must fun h=>aq h
 have ha2:=o1.2.1 ha1
 generalize must (au L u0 27) u0=u1 at *
 split at h
 ·cases h
 rename_i l s2 hl
 split at h
 ·cases h
 rename_i w s3 hwh
 injection h with h;injection h with h1 h2;subst h1 h2
 refine dLoop.gh [.virtC 3 9 16 9,.virtC 3 10 27 29] ⟨by decide,?_⟩
 simp only[tt,seval]
 refine⟨by decide,?_⟩
 simp only[tt,seval]
 refine dLoop0.intro (fun f' Lo p=>∃(m:List (ByteArray×Expr)) (v:PS) (n:Nat) (F1 F2:Fp),(match km L f v with|none=>none|some (x,s1)=>dy L (km L f) n (m++[x]) s1)=some (l,s2)/\v.a<=L.length/\m.length<=v.a/\Lo=[(9000,.str (PB L v)),(3,.str [.v (.int .i64 3),.v (.bool false),.v (.slice none 0 0),.v (.slice none 0 0),.v (.slice none 0 0),.v (.slice none 0 0),.v (.int .i64 0),.v (.string tab),.v (.slice none 0 0),.s 16 (m).length,.s 27 (m).length,.v (.slice none 0 0)]),(16,.arr 9 (m).length (((m).map (·.1)).flatMap srow) F1),(27,.arr 29 (m).length (((m).map (·.2)).flatMap Expr.row) F2),(2,.str [.v (.int .i64 0),.v (.bool false),.v (.slice none 0 0),.v (.slice none 0 0),.v (.slice none 0 0),.v (.slice none 0 0),.v (.int .i64 0),.v (.string ByteArray.empty),.v (.slice none 0 0),.v (.slice none 0 0),.v (.slice none 0 0),.v (.slice none 0 0)])]/\p=none) (fun _ Lo _=>L.length-vS Lo) [(9000,.str (PB L u1)),(3,.str [.v (.int .i64 3),.v (.bool false),.v (.slice none 0 0),.v (.slice none 0 0),.v (.slice none 0 0),.v (.slice none 0 0),.v (.int .i64 0),.v (.string tab),.v (.slice none 0 0),.s 16 (([]:List (ByteArray×Expr))).length,.s 27 (([]:List (ByteArray×Expr))).length,.v (.slice none 0 0)]),(16,.arr 9 (([]:List (ByteArray×Expr))).length (((([]:List (ByteArray×Expr))).map (·.1)).flatMap srow) (some [])),(27,.arr 29 (([]:List (ByteArray×Expr))).length (((([]:List (ByteArray×Expr))).map (·.2)).flatMap Expr.row) (some [])),(2,.str [.v (.int .i64 0),.v (.bool false),.v (.slice none 0 0),.v (.slice none 0 0),.v (.slice none 0 0),.v (.slice none 0 0),.v (.int .i64 0),.v (.string ByteArray.empty),.v (.slice none 0 0),.v (.slice none 0 0),.v (.slice none 0 0),.v (.slice none 0 0)])] none ⟨ac rfl (ac rfl (ac rfl (ac rfl (ac rfl (ak _))))),al _,?_⟩ ?_
 ·simp only[tt,seval]
  exact⟨[],u1,L.length+1,some [],some [],hl,ha2,by simp,rfl⟩
 ·rintro g' Lo p ⟨m,v,n,F1,F2,hm,hv,hml,rfl,rfl⟩
  simp only[tt,seval]
  split at hm
  ·cases hm
  rename_i x y1 hset
  obtain⟨xt,e⟩:=x
  unfold km at hset
  simp only at hset
  have c1:=cM L hL hT v 2 (by omega) hv
  have o0:=Ok.mText (L:=L) 2 v
  have o0a:=o0.1
  have hu2:=o0.2.1 hv
  generalize (mText L 2 v).2=u2 at *
  generalize (mText L 2 v).1=tx at *
  apply du 0 2 3
  case h1=>
   refine dDrawn.intro [14] (.take 0 (.take 2 (.br 1 (.br 3 (.br 4 (.br 5 (.take 6 (.br 7 .done .nobr)) .nobr) .nobr) .nobr) (.br 3 (.take 1 (.br 4 (.br 5 (.take 6 (.br 7 .done .nobr)) .nobr) .nobr)) .nobr)))) (by kernel_rfl) ?_
   simp only[tt,seval]
   all_goals repeat' first|refine cJ ?_ ?_|refine b7 ?_ ?_
   all_goals
    refine cS (c1) ?_ ?_
    ·simp only[tt,seval,PB]
     decide
    simp only[tt,seval,PB]
   all_goals repeat' first|refine jU ?_ ?_|refine dR ?_ ?_|refine dS ?_ ?_
   all_goals
    refine⟨by kernel_rfl,⟨by simp only[maxLen];omega,by omega⟩,?_⟩
   all_goals exact⟨rfl,rfl,rfl,rfl,rfl⟩
  case h2=>
   intro f' hj0 hj1 hj2
   simp only[tt,seval,hj0]
   have o2:Ok L u2 (must (b3 L u2 61) u2):=Ok.must fun h=>aD h
   refine cS (bj L hL hT u2 61 hu2) ?_ ?_<;>simp only[tt,seval,PB]
   refine cS (aM L hL hT u2 (b3 L u2 61) (fun h=>aD h)) ?_ ?_<;>simp only[tt,seval,PB]
   have hu3:=o2.2.1 hu2
   have o2a:=o2.1
   generalize must (b3 L u2 61) u2=u3 at *
   split at hset
   ·cases hset
   rename_i e5 y5 he
   obtain⟨rfl,rfl,rfl⟩:xt=tx/\e=e5/\y1=y5:=by cases hset;exact⟨rfl,rfl,rfl⟩
   have o4:=ok 1 _ _ _ he
   have o4a:=o4.1
   have hy1:=o4.2.1 hu3
   obtain⟨k2,p2,n2,v2,q2,m2,ks2,ss2⟩:=e
   have c2:=hf1 _ _ _ he hu3
   rw[ah] at c2
   apply du 0 2 3
   case h1=>
    refine dDrawn.intro [25] (.take 0 (.take 2 (.br 1 (.br 3 (.br 4 (.br 5 (.take 6 (.br 7 .done .nobr)) .nobr) .nobr) .nobr) (.br 3 (.take 1 (.br 4 (.br 5 (.take 6 (.br 7 .done .nobr)) .nobr) .nobr)) .nobr)))) (by kernel_rfl) ?_
    simp only[tt,seval]
    all_goals try simp only[tt,seval,hj0,hj2]
    all_goals repeat' first|refine cJ ?_ ?_|refine b7 ?_ ?_
    all_goals
     refine cS (c2) ?_ ?_
     ·simp only[tt,seval,PB]
      decide
     simp only[tt,seval,PB,hj0,hj1,hj2]
    all_goals repeat' first|refine jU ?_ ?_|refine dR ?_ ?_|refine dS ?_ ?_
    all_goals
     refine⟨by kernel_rfl,⟨by simp only[maxLen];omega,by omega⟩,?_⟩
    all_goals exact⟨rfl,rfl,rfl,rfl,rfl⟩
   case h2=>
    intro f' hk0 hk1 hk2
    simp only[tt,seval,hk0]
    refine cS (bj L hL hT y1 44 hy1) ?_ ?_<;>simp only[tt,seval,PB,hk0]
    cases c44:b3 L y1 44 with
    |true=>
     have hlt:=(aD c44).2
     simp only[tt,seval]
     refine cS (aM L hL hT y1 true (fun _=>aD c44)) ?_ ?_<;>simp only[tt,seval,PB,sF]
     cases n with
     |zero=>cases hm
     |succ n=>
     rw[dy,if_pos c44] at hm
     refine⟨[(9000,.str (PB L (adv y1))),(3,.str [.v (.int .i64 3),.v (.bool false),.v (.slice none 0 0),.v (.slice none 0 0),.v (.slice none 0 0),.v (.slice none 0 0),.v (.int .i64 0),.v (.string tab),.v (.slice none 0 0),.s 16 ((m++[(xt,(Expr.mk k2 p2 n2 v2 q2 m2 ks2 ss2))])).length,.s 27 ((m++[(xt,(Expr.mk k2 p2 n2 v2 q2 m2 ks2 ss2))])).length,.v (.slice none 0 0)]),(16,.arr 9 ((m++[(xt,(Expr.mk k2 p2 n2 v2 q2 m2 ks2 ss2))])).length ((((m++[(xt,(Expr.mk k2 p2 n2 v2 q2 m2 ks2 ss2))])).map (·.1)).flatMap srow) none),(27,.arr 29 ((m++[(xt,(Expr.mk k2 p2 n2 v2 q2 m2 ks2 ss2))])).length ((((m++[(xt,(Expr.mk k2 p2 n2 v2 q2 m2 ks2 ss2))])).map (·.2)).flatMap Expr.row) none),(2,.str [.v (.int .i64 0),.v (.bool false),.v (.slice none 0 0),.v (.slice none 0 0),.v (.slice none 0 0),.v (.slice none 0 0),.v (.int .i64 0),.v (.string ByteArray.empty),.v (.slice none 0 0),.v (.slice none 0 0),.v (.slice none 0 0),.v (.slice none 0 0)])],none,by simp only[dx,PB,ah,List.flatMap_nil,List.flatMap_cons,List.append_nil,List.length_nil,List.length_cons,List.flatMap_append,aA,List.map_append,List.map_cons,List.map_nil,srow];exact ac rfl (ac rfl (ac rfl (ac rfl (ac rfl (ak _))))),al _,⟨m++[(xt,(Expr.mk k2 p2 n2 v2 q2 m2 ks2 ss2))],adv y1,n,none,none,(by revert hm;cases km L f (adv y1) with|none=>exact id|some p=>exact id),aR (aD c44),by simp [adv];omega,rfl,rfl⟩,?_⟩
     show L.length-(((adv y1).a:Int)).toNat<L.length-((v.a:Int)).toNat
     show L.length-(((y1.a+1:Nat):Int)).toNat<L.length-((v.a:Int)).toNat
     omega
    |false=>
     have hm:some (m++[(xt,(Expr.mk k2 p2 n2 v2 q2 m2 ks2 ss2))],y1)=some (l,s2):=by
      cases n with
      |zero=>cases hm
      |succ n=>rw[dy,if_neg (by rw[c44];simp)] at hm;exact hm
     injection hm with hm;injection hm with e1 e2;subst e1 e2
     simp only[tt,seval]
     have cw:=iF L hL hT hf1 _ _ _ hwh hy1
     refine cS (cw) ?_ ?_<;>simp only[tt,seval,PB,hk1,hk2]
     refine⟨.ag (av (Stmt.mk 3 zQuery tab [] ((m++[(xt,(Expr.mk k2 p2 n2 v2 q2 m2 ks2 ss2))]).map (·.1)) ((m++[(xt,(Expr.mk k2 p2 n2 v2 q2 m2 ks2 ss2))]).map (·.2)) w).row),[PB L s3],⟨rfl,rfl⟩,am ?_⟩
     simp only[tt,seval,Stmt.row_mk,ar,zQuery,PB,ah,ar,PB,List.map_append,aA,List.length_map,List.flatMap_append,srow]
theorem wL {L:List Tok} {s:PS} {j k:Nat} (h:au L s j=true) (hn:kw j≠kw k):au L s k=false:=by
 unfold au ki at h ⊢
 cases ht:iD L s 0 with
 |none=>rfl
 |some t=>
  rw[ht] at h
  simp only[Bool.and_eq_true,decide_eq_true_eq] at h
  simp [h.2,hn]
theorem zn {L:List Tok} {f:Nat->PM Expr} (hf:∀lv,OkM (L:=L) (f lv)) {s:PS} {x:Query} {s':PS} (hk:au L s 1=false) (h:stepQ L f s=some (x,s')):s'=fl s:=by
 unfold stepQ at h
 simp only at h
 rw[hk] at h
 split at h
 ·cases h
 rename_i its s2 h1
 split at h
 ·cases h
 rename_i frs s4 h2
 split at h
 ·cases h
 rename_i wh s5 h3
 split at h
 ·cases h
 rename_i od s6 h4
 injection h with h;injection h with _ h;subst h
 have:=(Ok.tkIf fun h=>aq h).trans ((OkM.items hf _ _ _ h1).trans ((Ok.must fun h=>aq h).trans ((Ok.sourceM _).trans ((OkM.sources hf _ _ _ _ _ h2).trans ((OkM.wher hf _ _ _ h3).trans ((OkM.order hf _ _ _ h4).trans (Ok.limitM _)))))))
 exact this.2.2 rfl
set_option maxHeartbeats 4000000 in
theorem tG (L:List Tok) (hL:L.length<=1048576) (hT:∀t∈L,t.text.size<=1048576) {f:Nat->PM Expr} {q:PM Query} (ok:∀lv,OkM (L:=L) (f lv)) (hf1:mj L 39 [vi 1] (f 1)) (hq:zS L 53 q) (hqd:∀s,Df q s) (hqb:∀s x s',au L s 1=false->q s=some (x,s')->s'=fl s) (s:PS) (x:Stmt) (s':PS) (h:gR L f q s=some (x,s')) (ha:s.a<=L.length):Cl Tryz.prog 64 [.c (.p 9000 0)] [PB L s] fun r os=>(∃y:Stmt,r = .ag (av y.row)/\(s'.b=false->y=x))/\os=[PB L s']:=by
 unfold gR at h
 refine ae ab false Tryz.func64 rfl (by kernel_rfl) ?_
 simp only[Tryz.f64,tt,seval]
 refine cS (aZ L hL hT s 23 (by omega) (by omega) ha) ?_ ?_<;>simp only[tt,seval,PB]
 cases c1:au L s 1 with
 |true=>
  have c23:au L s 23=false:=wL c1 (by decide +kernel)
  have c26:au L s 26=false:=wL c1 (by decide +kernel)
  have c28:au L s 28=false:=wL c1 (by decide +kernel)
  rw[if_pos c1] at h
  split at h
  ·cases h
  rename_i y s1 hy
  injection h with h;injection h with h1 h2;subst h1 h2
  have cq:=hq _ _ _ hy ha
  obtain⟨d1,i1,f1,w1,o1,l1⟩:=y
  rw[ar] at cq
  simp only[tt,seval,c23,fY]
  refine cS (aZ L hL hT s 26 (by omega) (by omega) ha) ?_ ?_<;>simp only[tt,seval,PB]
  simp only[tt,seval,c26,fY]
  refine cS (aZ L hL hT s 28 (by omega) (by omega) ha) ?_ ?_<;>simp only[tt,seval,PB]
  simp only[tt,seval,c28,fY]
  refine cS (cq) ?_ ?_<;>simp only[tt,seval,PB]
  refine⟨.ag (av (Stmt.mk 1 (Query.mk d1 i1 f1 w1 o1 l1) z0 [] [] [] []).row),[PB L (s1)],⟨⟨Stmt.mk 1 (Query.mk d1 i1 f1 w1 o1 l1) z0 [] [] [] [],rfl,fun _=>rfl⟩,rfl⟩,am ?_⟩
  simp only[tt,seval,Stmt.row_mk,ar,dx,PB,z0,ar,PB]
 |false=>
 rw[if_neg (by rw[c1];simp)] at h
 cases c23:au L s 23 with
 |true=>
  rw[if_pos c23] at h
  simp only[tt,seval,gy]
  have ci:=qD L hL hT ok hf1 _ _ _ h (aR (aq c23))
  obtain⟨kz,⟨dz,iz,fz,wz,oz,lz⟩,tz,rz,cz,sz,hz⟩:=x
  simp only[Stmt.row_mk,ar,lc] at ci
  refine cS (ci) ?_ ?_<;>simp only[tt,seval,PB]
  refine⟨.ag (av ((Stmt.mk kz (Query.mk dz iz fz wz oz lz) tz rz cz sz hz)).row),[PB L (s')],⟨⟨(Stmt.mk kz (Query.mk dz iz fz wz oz lz) tz rz cz sz hz),rfl,fun _=>rfl⟩,rfl⟩,am ?_⟩
  simp only[tt,seval,Stmt.row_mk,ar,PB,ar,PB]
 |false=>
 rw[if_neg (by rw[c23];simp)] at h
 simp only[tt,seval,fY]
 refine cS (aZ L hL hT s 26 (by omega) (by omega) ha) ?_ ?_<;>simp only[tt,seval,PB]
 cases c26:au L s 26 with
 |true=>
  rw[if_pos c26] at h
  simp only[tt,seval,gy]
  have ci:=qE L hL hT ok hf1 _ _ _ h (aR (aq c26))
  obtain⟨kz,⟨dz,iz,fz,wz,oz,lz⟩,tz,rz,cz,sz,hz⟩:=x
  simp only[Stmt.row_mk,ar,lc] at ci
  refine cS (ci) ?_ ?_<;>simp only[tt,seval,PB]
  refine⟨.ag (av ((Stmt.mk kz (Query.mk dz iz fz wz oz lz) tz rz cz sz hz)).row),[PB L (s')],⟨⟨(Stmt.mk kz (Query.mk dz iz fz wz oz lz) tz rz cz sz hz),rfl,fun _=>rfl⟩,rfl⟩,am ?_⟩
  simp only[tt,seval,Stmt.row_mk,ar,PB,ar,PB]
 |false=>
 rw[if_neg (by rw[c26];simp)] at h
 simp only[tt,seval,fY]
 refine cS (aZ L hL hT s 28 (by omega) (by omega) ha) ?_ ?_<;>simp only[tt,seval,PB]
 cases c28:au L s 28 with
 |true=>
  rw[if_pos c28] at h
  have hav:=aR (L:=L) (aq c28)
  unfold ik at h
  simp only at h
  simp only[tt,seval,gy]
  refine cS (cO L hL hT (adv s) 3 (by omega) (by omega) hav) ?_ ?_<;>simp only[tt,seval,PB]
  refine cS (aM L hL hT (adv s) (au L (adv s) 3) (fun h=>aq h)) ?_ ?_<;>simp only[tt,seval,PB]
  have o1:Ok L (adv s) (must (au L (adv s) 3) (adv s)):=Ok.must fun h=>aq h
  have ha1:=o1.2.1 hav
  generalize must (au L (adv s) 3) (adv s)=u1 at *
  refine cS (cM L hL hT u1 2 (by omega) ha1) ?_ ?_<;>simp only[tt,seval,PB]
  have ha2:=(Ok.mText (L:=L) 2 u1).2.1 ha1
  generalize (mText L 2 u1).2=u2 at *
  generalize (mText L 2 u1).1=tab at *
  split at h
  ·cases h
  rename_i w s2 hw
  injection h with h;injection h with h1 h2;subst h1 h2
  have cw:=iF L hL hT hf1 _ _ _ hw ha2
  refine cS (cw) ?_ ?_<;>simp only[tt,seval,PB]
  refine⟨.ag (av (Stmt.mk 4 zQuery tab [] [] [] w).row),[PB L (s2)],⟨⟨Stmt.mk 4 zQuery tab [] [] [] w,rfl,fun _=>rfl⟩,rfl⟩,am ?_⟩
  simp only[tt,seval,Stmt.row_mk,ar,zQuery,PB,ar,PB]
 |false=>
  rw[if_neg (by rw[c28];simp)] at h
  injection h with h;injection h with h1 h2;subst h1 h2
  simp only[tt,seval,fY]
  obtain⟨y,s1,hy⟩:=hqd s
  have e1:=hqb _ _ _ c1 hy
  subst e1
  have cq:=hq _ _ _ hy ha
  obtain⟨d1,i1,f1,w1,o1,l1⟩:=y
  rw[ar] at cq
  refine cS (cq) ?_ ?_<;>simp only[tt,seval,PB]
  refine⟨.ag (av (Stmt.mk 1 (Query.mk d1 i1 f1 w1 o1 l1) z0 [] [] [] []).row),[PB L (fl s)],⟨⟨_,rfl,fun h=>by cases h⟩,rfl⟩,am ?_⟩
  simp only[tt,seval,Stmt.row_mk,ar,dx,PB,z0,ar,PB]
theorem zo {L:List Tok} {s:PS} (h:¬ 0<=kn L s):s.b=false:=by
 unfold kn at h
 split at h
 ·rename_i hb;exact hb.1
 ·exact absurd (Int.natCast_nonneg _) h
theorem wM (L:List Tok) (hL:L.length<=1048576) (hT:∀t∈L,t.text.size<=1048576):Cl Tryz.prog 24 [.c (.sl L.length (L.flatMap Tok.row) none)] [] fun r _=>r = .tu [(av (bA L).1.row,false),([.v (.int .i64 (bA L).2)],true)]:=by
 have ok:=fun lv=>gS (L:=L) lv
 obtain⟨x,s1,hx⟩:=pQ (f:=kj L) ok (fun s=>pO 1 (by omega) (by omega) s) (fun s=>iU s) s0
 have ha:=(OkM.stmt ok iV _ _ _ hx).2.1 (Nat.zero_le _)
 have c1:=tG L hL hT ok (yo L hL hT 1 (by omega) (by omega)) (vT L hL hT) (fun s=>iU s) (fun s x s' hk h=>by
  rw[yj] at h
  exact zn ok hk h) _ _ _ hx (Nat.zero_le _)
 have ht:bA L=il L bw (some (x,s1)):=by unfold bA;rw[hx]
 rw[ht]
 refine ae ab false Tryz.func24 rfl (by kernel_rfl) ?_
 simp only[Tryz.f24,tt,seval]
 refine CallQ.intro (c1) ?_ ?_ ?_
 ·decide
 ·simp only[tt,seval,PB,s0]
 rintro r os ⟨⟨y,rfl,hy⟩,rfl⟩ hos
 simp only[tt,seval,PB,s0]
 obtain⟨kz,⟨dz,iz,fz,wz,oz,lz⟩,tz,rz,cz,sz,hz⟩:=y
 simp only[tt,seval,Stmt.row_mk,ar,dx,ar]
 refine cS (zZ L hL hT s1 ha) ?_ ?_<;>simp only[tt,seval,PB]
 refine aa (fun hb=>?_) (fun hb=>?_)
 ·have e:il L bw (some (x,s1))=(bw,kn L s1):=if_pos hb
  rw[e]
  refine⟨_,[],rfl,am ?_⟩
  simp only[tt,seval,Stmt.row_mk,ar,zQuery,dx,z0,ar,bw]
 ·have e:il L bw (some (x,s1))=(x,-1):=if_neg (by omega)
  rw[e,<-hy (zo (by omega))]
  refine⟨_,[],rfl,am ?_⟩
  simp only[tt,seval,Stmt.row_mk,ar,ar]
end Go.Proofs.YteffjmaadkkmeaaGreatDoor
set_option maxRecDepth 8000
namespace Go.Proofs.YteffjmaadkkmeaaGreatDoor
open Go Go.Dv Go.Cv
open Go.Vc (D cY d3 cN bk)
theorem s9 (L:List Tok) (hL:L.length<=1048576) (hT:∀t∈L,t.text.size<=1048576) {f:Nat->PM Expr} (ok:∀lv,OkM (L:=L) (f lv)) (hf1:gA L 42 (f 1)) (s:PS) (x:List Expr) (s':PS) (h:lC L f s=some (ERow.mk x,s')) (ha:s.a<=L.length):Cl Tryz.prog 116 [.c (.p 9000 0)] [PB L s] fun r os=>(∃F,r = .c (.ow 29 x.length (x.flatMap Expr.row) (some F)))/\os=[PB L s']:=by
 unfold lC at h
 split at h
 ·cases h
 rename_i l t hl
 obtain⟨rfl,rfl⟩:l=x/\must (b3 L t 41) t=s':=by
  injection h with h;injection h with h1 h2;injection h1 with h1;exact⟨h1,h2⟩
 clear h
 have o1:Ok L s (must (b3 L s 40) s):=Ok.must fun h=>aD h
 have ha1:=o1.2.1 ha
 have cl:=rI L hL hT (ok 1) hf1 _ _ _ hl ha1
 have ha2:=(OkM.ors ok _ _ _ hl).2.1 ha1
 refine ae ab true Tryz.func116 rfl (by kernel_rfl) ?_
 simp only[Tryz.f116,tt,seval]
 refine cS (d6 L hL hT s 40 ha) ?_ ?_<;>simp only[tt,seval,PB]
 generalize must (b3 L s 40) s=u at *
 refine CallQ.intro (cl) ?_ ?_ ?_
 ·decide
 ·simp only[tt,seval,PB]
 rintro r os ⟨⟨hlen,F,rfl⟩,rfl⟩ hos
 simp only[tt,seval,PB]
 refine cS (d6 L hL hT t 41 ha2) ?_ ?_<;>simp only[tt,seval,PB]
 refine⟨.c (.ow 29 l.length (l.flatMap Expr.row) (some F)),[PB L (must (b3 L t 41) t)],⟨⟨_,rfl⟩,rfl⟩,am ?_⟩
 simp only[tt,seval,PB]
 first|done|exact Sb.refl _|((try refine⟨by omega,?_⟩);exact aK fun x=>by (try simp only[fb]);omega)
set_option maxHeartbeats 4000000 in
theorem sa (L:List Tok) (hL:L.length<=1048576) (hT:∀t∈L,t.text.size<=1048576) {f:Nat->PM Expr} (ok:∀lv,OkM (L:=L) (f lv)) (hf1:gA L 42 (f 1)) (tab:ByteArray) (cs:List ByteArray) (es:List Expr) (hc:cs.length<=1048580) (he:es.length<=1048580) (Fs:List (List Nat)) (s:PS) (x:ByteArray×Expr) (s':PS) (h:km L f s=some (x,s')) (ha:s.a<=L.length):ClT Tryz.prog 117 [.c (.p 9000 0),.c (.p 9001 0)] [PB L s,[.v (.int .i64 3),.v (.bool false),.v (.slice none 0 0),.v (.slice none 0 0),.v (.slice none 0 0),.v (.slice none 0 0),.v (.int .i64 0),.v (.string tab),.v (.slice none 0 0),.ow 9 (cs).length ((cs).flatMap srow) (some []),.ow 29 (es).length ((es).flatMap Expr.row) (some (Fs)),.v (.slice none 0 0)]] Fs.flatten fun r os=>r = .tu []/\∃F,os=[PB L s',[.v (.int .i64 3),.v (.bool false),.v (.slice none 0 0),.v (.slice none 0 0),.v (.slice none 0 0),.v (.slice none 0 0),.v (.int .i64 0),.v (.string tab),.v (.slice none 0 0),.ow 9 ((cs++[x.1])).length (((cs++[x.1])).flatMap srow) (some []),.ow 29 ((es++[x.2])).length (((es++[x.2])).flatMap Expr.row) (some (F)),.v (.slice none 0 0)]]:=by
 unfold km at h
 simp only at h
 have c1:=cn L hL hT s 2 ha
 have ha1:=(Ok.mText (L:=L) 2 s).2.1 ha
 generalize (mText L 2 s).2=u at *
 generalize (mText L 2 s).1=tx at *
 split at h
 ·cases h
 rename_i e t hx
 injection h with h;injection h with h1 h2;subst h1 h2
 have o3:Ok L u (must (b3 L u 61) u):=Ok.must fun h=>aD h
 have ha3:=o3.2.1 ha1
 have cSg:=d6 L hL hT u 61 ha1
 generalize must (b3 L u 61) u=u3 at *
 obtain⟨k1,p1,n1,v1,q1,m1,ks1,ss1⟩:=e
 have c2:=hf1 _ _ _ hx ha3
 rw[ah] at c2
 have hA:=bn aC es
 have hT1:∀Z,List.take (es.length*10) (es.flatMap Expr.row++Z)=es.flatMap Expr.row:=fun Z=>List.take_left' hA
 have hT2:∀a0 a1 a2 a3 a4 a5 a6 a7 a8 a9,List.drop (es.length*10+10) (es.flatMap Expr.row++[a0,a1,a2,a3,a4,a5,a6,a7,a8,a9])=[]:=fun _ _ _ _ _ _ _ _ _ _=>List.drop_eq_nil_of_le (by simp [hA])
 have hT4:∀a0 a1 a2 a3 a4 a5 a6 a7 a8 a9,(es.flatMap Expr.row++[a0,a1,a2,a3,a4,a5,a6,a7,a8,a9]).length=es.length*10+10:=fun _ _ _ _ _ _ _ _ _ _=>by simp [hA]
 refine nt ab (some (Fs)) _ (fun ps h=>by injection h with h;subst h;first|rfl|simp) Tryz.func117 rfl (by kernel_rfl) ?_
 simp only[Tryz.f117,tt,seval]
 apply yC 0 1
 case h1=>
  refine dDrawn.intro [10] (.take 0 (.take 1 (.take 2 (.take 3 (.take 5 (.br 4 (.br 6 (.br 7 (.br 8 (.take 9 (.take 10 (.br 11 .done .nobr))) .nobr) .nobr) .nobr) (.br 6 (.take 4 (.br 7 (.br 8 (.take 9 (.take 10 (.br 11 .done .nobr))) .nobr) .nobr)) .nobr))))))) (by kernel_rfl) ?_
  simp only[tt,seval]
  all_goals try simp only[tt,seval,PB]
  all_goals repeat' first|refine cJ ?_ ?_|refine b7 ?_ ?_
  all_goals
   refine cS (c1) ?_ ?_
   ·simp only[tt,seval,PB]
    decide
   simp only[tt,seval,PB]
  all_goals repeat' first|refine jU ?_ ?_|refine dR ?_ ?_|refine dS ?_ ?_
  all_goals
   refine⟨by kernel_rfl,⟨by simp only[maxLen];omega,by omega⟩,?_⟩
  all_goals exact⟨rfl,rfl,rfl,rfl⟩
 case h2=>
  intro f' hj0 hj1
  simp only[tt,seval,hj0]
  refine cS (cSg) ?_ ?_<;>simp only[tt,seval,PB]
  refine dDrawn.intro [22] (.take 0 (.take 1 (.take 2 (.take 4 (.br 3 (.take 6 (.br 5 (.br 7 (.br 8 (.take 9 (.take 11 (.take 12 (.br 10 (.br 13 .done .nobr) (.br 13 (.br 10 .done .nobr) .nobr))))) .nobr) .nobr) (.br 7 (.br 5 (.br 8 (.take 9 (.take 11 (.take 12 (.br 10 (.br 13 .done .nobr) (.br 13 (.br 10 .done .nobr) .nobr))))) .nobr) .nobr) .nobr))) (.br 5 (.take 3 (.take 6 (.br 7 (.br 8 (.take 9 (.take 11 (.take 12 (.br 10 (.br 13 .done .nobr) (.br 13 (.br 10 .done .nobr) .nobr))))) .nobr) .nobr))) (.br 7 (.br 3 (.take 6 (.br 5 (.br 8 (.take 9 (.take 11 (.take 12 (.br 10 (.br 13 .done .nobr) (.br 13 (.br 10 .done .nobr) .nobr))))) .nobr) .nobr)) (.br 5 (.take 3 (.take 6 (.br 8 (.take 9 (.take 11 (.take 12 (.br 10 (.br 13 .done .nobr) (.br 13 (.br 10 .done .nobr) .nobr))))) .nobr))) .nobr)) .nobr))))))) (by kernel_rfl) ?_
  simp only[tt,seval]
  all_goals try simp only[tt,seval,hj0,hj1]
  all_goals repeat' first|with_reducible refine aa ?_ ?_|intro _
  all_goals
   refine CallQ.intro (c2) ?_ ?_ ?_
   ·decide
   ·simp only[tt,seval,PB]
    decide
   rintro r os ⟨⟨Gk,Gs,rfl⟩,rfl⟩ hos
   simp only[tt,seval,PB,aB]
  all_goals first|refine fun _=>?_|skip
  all_goals
   refine⟨by kernel_rfl,⟨by simp only[maxLen];omega,by omega⟩,by omega,by omega,?_⟩
   simp only[hT1,hT2,hT4,Nat.le_refl,true_and]
   all_goals repeat' first|with_reducible refine aa ?_ ?_|exact Nat.le_refl _|(show _<=_;omega)
   all_goals refine⟨_,[PB L t,[.v (.int .i64 3),.v (.bool false),.v (.slice none 0 0),.v (.slice none 0 0),.v (.slice none 0 0),.v (.slice none 0 0),.v (.int .i64 0),.v (.string tab),.v (.slice none 0 0),.ow 9 ((cs++[tx])).length (((cs++[tx])).flatMap srow) (some []),.ow 29 ((es++[(Expr.mk k1 p1 n1 v1 q1 m1 ks1 ss1)])).length (((es++[(Expr.mk k1 p1 n1 v1 q1 m1 ks1 ss1)])).flatMap Expr.row) (some (BX Fs (Gk++Gs))),.v (.slice none 0 0)]],⟨rfl,_,rfl⟩,am ?_⟩
   all_goals simp only[tt,seval,PB,srow,PB,ah,List.flatMap_append,aA]
   all_goals exact aK fun x=>by rw[pX];simp only[List.flatten_append,List.count_append];omega
def GB (L:List Tok) (fn:FuncId) (m:PM Stmt):Prop:=∀s e s',m s=some (e,s')->s.a<=L.length->Cl Tryz.prog fn [.c (.p 9000 0)] [PB L s] fun r os=>(∃Fi Ff Fw Fo Fr Fc Fe Fx,r = .ag (aB (e).row [Fi,Ff,Fw,Fo,Fr,Fc,Fe,Fx]))/\os=[PB L s']
set_option maxHeartbeats 16000000 in
theorem wN (L:List Tok) (hL:L.length<=1048576) (hT:∀t∈L,t.text.size<=1048576) {f:Nat->PM Expr} {q:PM Query} (ok:∀lv,OkM (L:=L) (f lv)) (okq:OkM (L:=L) q) (hf1:gA L 42 (f 1)) (hq:DR L 54 q):GB L 65 (gR L f q):=by
 intro s x s' h ha
 unfold gR at h
 refine ae ab true Tryz.func65 rfl (by kernel_rfl) ?_
 simp only[Tryz.f65,tt,seval]
 refine cS (qn L hL hT s 1 ⟨#[83,69,76,69,67,84]⟩ (by kernel_rfl) ha) ?_ ?_<;>simp only[tt,seval,PB]
 cases c1:au L s 1 with
 |true=>
  rw[if_pos c1] at h
  split at h
  ·cases h
  rename_i y s1 hy
  injection h with h;injection h with h1 h2;subst h1 h2
  have cq:=hq _ _ _ hy ha
  obtain⟨d1,i1,f1,w1,o1,l1⟩:=y
  rw[ar] at cq
  simp only[tt,seval]
  refine CallQ.intro (cq) ?_ ?_ ?_
  ·decide
  ·simp only[tt,seval,PB]
  rintro r os ⟨⟨Fi,Ff,Fw,Fo,rfl⟩,rfl⟩ hos
  simp only[tt,seval,PB,aB]
  refine⟨.ag (aB (Stmt.mk 1 (Query.mk d1 i1 f1 w1 o1 l1) z0 [] [] [] []).row [Fi,Ff,Fw,Fo,[],[],[],[]]),[PB L (s1)],⟨⟨Fi,Ff,Fw,Fo,[],[],[],[],by first|rfl|simp only[Stmt.row_mk,ar,bw,zQuery,ERow.row_mk,srow,rW,aB,Val.row,lc]⟩,rfl⟩,am ?_⟩
  simp only[tt,seval,Stmt.row_mk,ar,dx,PB,z0,ar,aB,z0]
  first|done|((try refine⟨by omega,?_⟩);exact aK fun x=>by (try simp only[List.flatten_append,List.count_append]);omega)
 |false=>
 rw[if_neg (by rw[c1];simp)] at h
 simp only[tt,seval]
 refine cS (ba L hL hT s 23 ⟨#[73,78,83,69,82,84]⟩ (by kernel_rfl) ha) ?_ ?_<;>simp only[tt,seval,PB]
 cases c23:au L s 23 with
 |true=>
  rw[if_pos c23] at h
  have hav:=aR (L:=L) (aq c23)
  unfold gE at h
  simp only at h
  simp only[tt,seval,gy]
  refine cS (dg L hL hT (adv s) 24 ⟨#[73,78,84,79]⟩ (by kernel_rfl) hav) ?_ ?_<;>simp only[tt,seval,PB]
  have o1:Ok L (adv s) (must (au L (adv s) 24) (adv s)):=Ok.must fun h=>aq h
  have ha1:=o1.2.1 hav
  generalize must (au L (adv s) 24) (adv s)=u1 at *
  refine cS (cn L hL hT u1 2 ha1) ?_ ?_<;>simp only[tt,seval,PB]
  have ha2:=(Ok.mText (L:=L) 2 u1).2.1 ha1
  generalize (mText L 2 u1).2=u2 at *
  generalize (mText L 2 u1).1=tab at *
  refine cS (dg L hL hT u2 25 ⟨#[86,65,76,85,69,83]⟩ (by kernel_rfl) ha2) ?_ ?_<;>simp only[tt,seval,PB]
  have o3:Ok L u2 (must (au L u2 25) u2):=Ok.must fun h=>aq h
  have ha3:=o3.2.1 ha2
  generalize must (au L u2 25) u2=u3 at *
  split at h
  ·cases h
  rename_i rs s3 hrs
  injection h with h;injection h with h1 h2;subst h1 h2
  unfold lP at hrs
  split at hrs
  ·cases hrs
  rename_i r1 v1 hr1
  obtain⟨l1⟩:=r1
  have c1:=s9 L hL hT ok hf1 _ _ _ hr1 ha3
  have hav1:=(OkM.row ok _ _ _ hr1).2.1 ha3
  refine CallQ.intro (c1) ?_ ?_ ?_
  ·decide
  ·simp only[tt,seval,PB]
  rintro r os ⟨⟨F1,rfl⟩,rfl⟩ hos
  simp only[tt,seval,PB]
  refine fun G1=>?_
  refine dLoop.gh [.ren 28 37] ⟨by decide,by decide,?_⟩
  refine dLoop0.intro (fun f' Lo p=>∃(m:List ERow) (v:PS) (n:Nat) (Fm Pl:List (List Nat)),dy L (lC L f) n m v=some (rs,s3)/\v.a<=L.length/\m.length<=v.a+1/\Sb Fm.flatten Pl.flatten/\Lo=[(9000,.str (PB L v)),(3,.str [.v (.int .i64 2),.v (.bool false),.v (.slice none 0 0),.v (.slice none 0 0),.v (.slice none 0 0),.v (.slice none 0 0),.v (.int .i64 0),.v (.string tab),.s 37 (m).length,.v (.slice none 0 0),.v (.slice none 0 0),.v (.slice none 0 0)]),(37,.arr 26 (m).length ((m).flatMap ERow.row) (some (Fm))),(2,.str [.v (.int .i64 0),.v (.bool false),.v (.slice none 0 0),.v (.slice none 0 0),.v (.slice none 0 0),.v (.slice none 0 0),.v (.int .i64 0),.v (.string ByteArray.empty),.v (.slice none 0 0),.v (.slice none 0 0),.v (.slice none 0 0),.v (.slice none 0 0)])]/\p=some Pl) (fun _ Lo _=>L.length-vS Lo) [(9000,.str (PB L v1)),(3,.str [.v (.int .i64 2),.v (.bool false),.v (.slice none 0 0),.v (.slice none 0 0),.v (.slice none 0 0),.v (.slice none 0 0),.v (.int .i64 0),.v (.string tab),.s 37 ([ERow.mk l1]).length,.v (.slice none 0 0),.v (.slice none 0 0),.v (.slice none 0 0)]),(37,.arr 26 ([ERow.mk l1]).length (([ERow.mk l1]).flatMap ERow.row) (some (G1::F1))),(2,.str [.v (.int .i64 0),.v (.bool false),.v (.slice none 0 0),.v (.slice none 0 0),.v (.slice none 0 0),.v (.slice none 0 0),.v (.int .i64 0),.v (.string ByteArray.empty),.v (.slice none 0 0),.v (.slice none 0 0),.v (.slice none 0 0),.v (.slice none 0 0)])] (some (G1::F1)) ⟨by simp only[ERow.row_mk,dx,PB,List.flatMap_nil,List.flatMap_cons,List.append_nil,List.length_nil,List.length_cons];exact ac rfl (ac rfl (ac rfl (ac rfl (ak _)))),PoSub.refl _,?_⟩ ?_
  ·simp only[tt,seval]
   exact⟨[ERow.mk l1],v1,L.length+1,G1::F1,G1::F1,hrs,hav1,by simp,Sb.refl _,rfl,rfl⟩
  ·rintro g' Lo p ⟨m,v,n,Fm,Pl,hm,hv,hml,hsb,rfl,rfl⟩
   simp only[tt,seval]
   refine cS (cm L hL hT v 44 hv) ?_ ?_<;>simp only[tt,seval,PB]
   cases n with
   |zero=>cases hm
   |succ n=>
   rw[dy] at hm
   cases c44:b3 L v 44 with
   |true=>
    rw[if_pos c44] at hm
    split at hm
    ·cases hm
    rename_i z w hz
    have hlt:=(aD c44).2
    have hav:=aR (L:=L) (aD c44)
    have o3:=OkM.row ok _ _ _ hz
    have o3a:v.a+1<=w.a:=o3.1
    have hw:=o3.2.1 hav
    obtain⟨l2⟩:=z
    have c2:=s9 L hL hT ok hf1 _ _ _ hz hav
    simp only[tt,seval,gy]
    refine dDrawn.intro [35] (.take 0 (.take 2 (.br 1 (.br 3 (.br 4 (.br 5 (.take 6 (.br 7 .done .nobr)) .nobr) .nobr) .nobr) (.br 3 (.take 1 (.br 4 (.br 5 (.take 6 (.br 7 .done .nobr)) .nobr) .nobr)) .nobr)))) (by kernel_rfl) ?_
    simp only[tt,seval]
    all_goals repeat' first|refine cJ ?_ ?_|refine b7 ?_ ?_
    all_goals
     refine CallQ.intro (c2) ?_ ?_ ?_
     ·decide
     ·simp only[tt,seval,PB]
      decide
     rintro r os ⟨⟨F2,rfl⟩,rfl⟩ hos
     simp (config:={ maxSteps:=10000000 }) only[tt,seval,PB]
    all_goals repeat' first|refine jU ?_ ?_|refine dR ?_ ?_|refine dS ?_ ?_
    all_goals
     refine fun G2=>?_
     refine⟨by kernel_rfl,⟨by simp only[maxLen];omega,by omega⟩,?_⟩
    all_goals
     refine⟨[(9000,.str (PB L w)),(3,.str [.v (.int .i64 2),.v (.bool false),.v (.slice none 0 0),.v (.slice none 0 0),.v (.slice none 0 0),.v (.slice none 0 0),.v (.int .i64 0),.v (.string tab),.s 37 ((m++[ERow.mk l2])).length,.v (.slice none 0 0),.v (.slice none 0 0),.v (.slice none 0 0)]),(37,.arr 26 ((m++[ERow.mk l2])).length (((m++[ERow.mk l2])).flatMap ERow.row) (some (Fm++(G2::F2)))),(2,.str [.v (.int .i64 0),.v (.bool false),.v (.slice none 0 0),.v (.slice none 0 0),.v (.slice none 0 0),.v (.slice none 0 0),.v (.int .i64 0),.v (.string ByteArray.empty),.v (.slice none 0 0),.v (.slice none 0 0),.v (.slice none 0 0),.v (.slice none 0 0)])],some (G2::(Pl++F2)),by simp only[ERow.row_mk,dx,PB,List.flatMap_nil,List.flatMap_cons,List.append_nil,List.length_nil,List.length_cons,List.flatMap_append,aA];exact ac rfl (ac rfl (ac rfl (ac rfl (ak _)))),PoSub.refl _,⟨m++[ERow.mk l2],w,n,_,_,hm,hw,by simp;omega,fun x=>by have:=hsb x;simp only[List.flatten_append,List.flatten_cons,List.count_append] at this ⊢;omega,rfl,rfl⟩,?_⟩
     show L.length-((w.a:Int)).toNat<L.length-((v.a:Int)).toNat
     omega
   |false=>
    rw[if_neg (by rw[c44];simp)] at hm
    injection hm with hm;injection hm with e1 e2;subst e1 e2
    simp only[tt,seval,fY]
    refine fun G=>?_
    refine⟨.ag (aB (Stmt.mk 2 zQuery tab m [] [] []).row [[],[],[],[],G::Fm,[],[],[]]),[PB L (v)],⟨⟨[],[],[],[],G::Fm,[],[],[],by first|rfl|simp only[Stmt.row_mk,ar,bw,zQuery,ERow.row_mk,srow,rW,aB,Val.row,lc]⟩,rfl⟩,am ?_⟩
    simp only[tt,seval,Stmt.row_mk,ar,zQuery,PB,ar,aB]
    exact aK fun x=>by have:=hsb x;simp only[List.count_append] at this ⊢;omega
 |false=>
 rw[if_neg (by rw[c23];simp)] at h
 simp only[tt,seval,fY]
 refine cS (ba L hL hT s 26 ⟨#[85,80,68,65,84,69]⟩ (by kernel_rfl) ha) ?_ ?_<;>simp only[tt,seval,PB]
 cases c26:au L s 26 with
 |true=>
  rw[if_pos c26] at h
  have hav:=aR (L:=L) (aq c26)
  unfold gF at h
  simp only at h
  simp only[tt,seval,gy]
  refine cS (cn L hL hT (adv s) 2 hav) ?_ ?_<;>simp only[tt,seval,PB]
  have ha1:=(Ok.mText (L:=L) 2 (adv s)).2.1 hav
  generalize (mText L 2 (adv s)).2=u0 at *
  generalize (mText L 2 (adv s)).1=tab at *
  refine cS (dg L hL hT u0 27 ⟨#[83,69,84]⟩ (by kernel_rfl) ha1) ?_ ?_<;>simp only[tt,seval,PB]
  have o1:Ok L u0 (must (au L u0 27) u0):=Ok.must fun h=>aq h
  have ha2:=o1.2.1 ha1
  generalize must (au L u0 27) u0=u1 at *
  split at h
  ·cases h
  rename_i l s2 hl
  split at h
  ·cases h
  rename_i w s3 hwh
  injection h with h;injection h with h1 h2;subst h1 h2
  unfold mR at hl
  split at hl
  ·cases hl
  rename_i x1 v1 hs1
  obtain⟨xt,xe⟩:=x1
  have cs:=sa L hL hT ok hf1 tab [] [] (by simp) (by simp) [] _ _ _ hs1 ha2
  simp only[List.flatMap_nil,List.length_nil,List.nil_append] at cs
  refine uT ([]) (cs) ?_ ?_ ?_ ?_
  ·decide
  ·simp only[tt,seval,PB]
  ·exact fun x=>by simp only[List.flatten_nil,List.append_nil,List.count_nil];omega
  rintro r os ⟨rfl,F1,rfl⟩ hos
  simp only[tt,seval,PB]
  have hav1:=(OkM.set1 ok _ _ _ hs1).2.1 ha2
  refine dLoop.gh [.ren 20090049 20090053,.ren 20100049 20100053] ⟨by decide,by decide,?_⟩
  simp only[tt,seval]
  refine⟨by decide,by decide,?_⟩
  simp only[tt,seval]
  refine dLoop0.intro (fun f' Lo p=>∃(m:List (ByteArray×Expr)) (ccs:List ByteArray) (ces:List Expr) (v:PS) (n:Nat) (Fm:List (List Nat)),dy L (km L f) n m v=some (l,s2)/\ccs=m.map (·.1)/\ces=m.map (·.2)/\v.a<=L.length/\m.length<=v.a+1/\Lo=[(9000,.str (PB L v)),(3,.str [.v (.int .i64 3),.v (.bool false),.v (.slice none 0 0),.v (.slice none 0 0),.v (.slice none 0 0),.v (.slice none 0 0),.v (.int .i64 0),.v (.string tab),.v (.slice none 0 0),.s 20090053 (ccs).length,.s 20100053 (ces).length,.v (.slice none 0 0)]),(20090053,.arr 9 (ccs).length ((ccs).flatMap srow) (some [])),(20100053,.arr 29 (ces).length ((ces).flatMap Expr.row) (some (Fm))),(2,.str [.v (.int .i64 0),.v (.bool false),.v (.slice none 0 0),.v (.slice none 0 0),.v (.slice none 0 0),.v (.slice none 0 0),.v (.int .i64 0),.v (.string ByteArray.empty),.v (.slice none 0 0),.v (.slice none 0 0),.v (.slice none 0 0),.v (.slice none 0 0)])]/\p=some Fm) (fun _ Lo _=>L.length-vS Lo) [(9000,.str (PB L v1)),(3,.str [.v (.int .i64 3),.v (.bool false),.v (.slice none 0 0),.v (.slice none 0 0),.v (.slice none 0 0),.v (.slice none 0 0),.v (.int .i64 0),.v (.string tab),.v (.slice none 0 0),.s 20090053 ([xt]).length,.s 20100053 ([xe]).length,.v (.slice none 0 0)]),(20090053,.arr 9 ([xt]).length (([xt]).flatMap srow) (some [])),(20100053,.arr 29 ([xe]).length (([xe]).flatMap Expr.row) (some (F1))),(2,.str [.v (.int .i64 0),.v (.bool false),.v (.slice none 0 0),.v (.slice none 0 0),.v (.slice none 0 0),.v (.slice none 0 0),.v (.int .i64 0),.v (.string ByteArray.empty),.v (.slice none 0 0),.v (.slice none 0 0),.v (.slice none 0 0),.v (.slice none 0 0)])] (some F1) ⟨by simp only[srow,dx,PB,List.flatMap_nil,List.flatMap_cons,List.append_nil,List.length_nil,List.length_cons];exact ac rfl (ac rfl (ac rfl (ac rfl (ac rfl (ak _))))),PoSub.refl _,?_⟩ ?_
  ·simp only[tt,seval]
   exact⟨[(xt,xe)],[xt],[xe],v1,L.length+1,F1,hl,rfl,rfl,hav1,by simp,by simp,rfl⟩
  ·rintro g' Lo p ⟨m,ccs,ces,v,n,Fm,hm,hcc,hce,hv,hml,rfl,rfl⟩
   have lcc:ccs.length=m.length:=by rw[hcc,List.length_map]
   have lce:ces.length=m.length:=by rw[hce,List.length_map]
   simp only[tt,seval]
   refine cS (cm L hL hT v 44 hv) ?_ ?_<;>simp only[tt,seval,PB]
   cases n with
   |zero=>cases hm
   |succ n=>
   rw[dy] at hm
   cases c44:b3 L v 44 with
   |true=>
    rw[if_pos c44] at hm
    split at hm
    ·cases hm
    rename_i z w' hz
    have hlt:=(aD c44).2
    have hav:=aR (L:=L) (aD c44)
    have o3:=OkM.set1 ok _ _ _ hz
    have o3a:v.a+1<=w'.a:=o3.1
    have hw:=o3.2.1 hav
    obtain⟨yt,ye⟩:=z
    have c2:=sa L hL hT ok hf1 tab ccs ces (by omega) (by omega) Fm _ _ _ hz hav
    simp only[tt,seval,gy]
    refine uT ([]) (c2) ?_ ?_ ?_ ?_
    ·decide
    ·simp only[tt,seval,PB]
    ·exact fun x=>by simp only[List.flatten_nil,List.append_nil];omega
    rintro r os ⟨rfl,F2,rfl⟩ hos
    simp only[tt,seval,PB]
    refine⟨[(9000,.str (PB L w')),(3,.str [.v (.int .i64 3),.v (.bool false),.v (.slice none 0 0),.v (.slice none 0 0),.v (.slice none 0 0),.v (.slice none 0 0),.v (.int .i64 0),.v (.string tab),.v (.slice none 0 0),.s 20090053 ((ccs++[yt])).length,.s 20100053 ((ces++[ye])).length,.v (.slice none 0 0)]),(20090053,.arr 9 ((ccs++[yt])).length (((ccs++[yt])).flatMap srow) (some [])),(20100053,.arr 29 ((ces++[ye])).length (((ces++[ye])).flatMap Expr.row) (some (F2))),(2,.str [.v (.int .i64 0),.v (.bool false),.v (.slice none 0 0),.v (.slice none 0 0),.v (.slice none 0 0),.v (.slice none 0 0),.v (.int .i64 0),.v (.string ByteArray.empty),.v (.slice none 0 0),.v (.slice none 0 0),.v (.slice none 0 0),.v (.slice none 0 0)])],some F2,by simp only[srow,dx,PB,List.flatMap_nil,List.flatMap_cons,List.append_nil,List.length_nil,List.length_cons,List.flatMap_append,aA];exact ac rfl (ac rfl (ac rfl (ac rfl (ac rfl (ak _))))),PoSub.refl _,⟨m++[(yt,ye)],ccs++[yt],ces++[ye],w',n,F2,hm,by rw[hcc];simp,by rw[hce];simp,hw,by simp;omega,rfl,rfl⟩,?_⟩
    show L.length-((w'.a:Int)).toNat<L.length-((v.a:Int)).toNat
    omega
   |false=>
    rw[if_neg (by rw[c44];simp)] at hm
    injection hm with hm;injection hm with e1 e2;subst e1 e2
    simp only[tt,seval,fY]
    have cw:=kH L hL hT hf1 _ _ _ hwh hv
    rw[<-hcc,<-hce]
    refine CallQ.intro (cw) ?_ ?_ ?_
    ·decide
    ·simp only[tt,seval,PB]
    rintro r os ⟨⟨Fw,rfl⟩,rfl⟩ hos
    simp only[tt,seval,PB]
    refine fun G0 G1 G2=>?_
    refine⟨.ag (aB (Stmt.mk 3 zQuery tab [] ccs ces w).row [[],[],[],[],[],G0::[],G1::Fm,G2::Fw]),[PB L (s3)],⟨⟨[],[],[],[],[],G0::[],G1::Fm,G2::Fw,by first|rfl|simp only[Stmt.row_mk,ar,bw,zQuery,ERow.row_mk,srow,rW,aB,Val.row,lc]⟩,rfl⟩,am ?_⟩
    simp only[tt,seval,Stmt.row_mk,ar,zQuery,PB,ar,aB]
    first|done|((try refine⟨by omega,?_⟩);exact aK fun x=>by (try simp only[List.flatten_append,List.flatten_cons,List.count_append]);omega)
 |false=>
 rw[if_neg (by rw[c26];simp)] at h
 simp only[tt,seval,fY]
 refine cS (ba L hL hT s 28 ⟨#[68,69,76,69,84,69]⟩ (by kernel_rfl) ha) ?_ ?_<;>simp only[tt,seval,PB]
 cases c28:au L s 28 with
 |true=>
  rw[if_pos c28] at h
  have hav:=aR (L:=L) (aq c28)
  unfold ik at h
  simp only at h
  simp only[tt,seval,gy]
  refine cS (dg L hL hT (adv s) 3 ⟨#[70,82,79,77]⟩ (by kernel_rfl) hav) ?_ ?_<;>simp only[tt,seval,PB]
  have o1:Ok L (adv s) (must (au L (adv s) 3) (adv s)):=Ok.must fun h=>aq h
  have ha1:=o1.2.1 hav
  generalize must (au L (adv s) 3) (adv s)=u1 at *
  refine cS (cn L hL hT u1 2 ha1) ?_ ?_<;>simp only[tt,seval,PB]
  have ha2:=(Ok.mText (L:=L) 2 u1).2.1 ha1
  generalize (mText L 2 u1).2=u2 at *
  generalize (mText L 2 u1).1=tab at *
  split at h
  ·cases h
  rename_i w s2 hw
  injection h with h;injection h with h1 h2;subst h1 h2
  have cw:=kH L hL hT hf1 _ _ _ hw ha2
  refine CallQ.intro (cw) ?_ ?_ ?_
  ·decide
  ·simp only[tt,seval,PB]
  rintro r os ⟨⟨F,rfl⟩,rfl⟩ hos
  simp only[tt,seval,PB]
  refine fun G=>?_
  refine⟨.ag (aB (Stmt.mk 4 zQuery tab [] [] [] w).row [[],[],[],[],[],[],[],G::F]),[PB L (s2)],⟨⟨[],[],[],[],[],[],[],G::F,by first|rfl|simp only[Stmt.row_mk,ar,bw,zQuery,ERow.row_mk,srow,rW,aB,Val.row,lc]⟩,rfl⟩,am ?_⟩
  simp only[tt,seval,Stmt.row_mk,ar,zQuery,PB,ar,aB]
  first|done|((try refine⟨by omega,?_⟩);exact aK fun x=>by (try simp only[List.count_append]);omega)
 |false=>
  rw[if_neg (by rw[c28];simp)] at h
  injection h with h;injection h with h1 h2;subst h1 h2
  simp only[tt,seval,fY]
  refine⟨.ag (aB (bw).row [[],[],[],[],[],[],[],[]]),[PB L (fl s)],⟨⟨[],[],[],[],[],[],[],[],by first|rfl|simp only[Stmt.row_mk,ar,bw,zQuery,ERow.row_mk,srow,rW,aB,Val.row,lc]⟩,rfl⟩,am ?_⟩
  simp only[tt,seval,Stmt.row_mk,ar,bw,zQuery,dx,PB,z0,ar,aB,z0,fl]
  first|done|((try refine⟨by omega,?_⟩);exact aK fun x=>by (try simp only[List.count_nil]);omega)
theorem Dc (L:List Tok) (hL:L.length<=1048576) (hT:∀t∈L,t.text.size<=1048576):GB L 65 (gR L (kj L) (kl L)):=wN L hL hT (fun lv=>gS lv) iV (EA L hL hT) (B1 L hL hT)
set_option maxHeartbeats 4000000 in
theorem vz (L:List Tok) (hL:L.length<=1048576) (hT:∀t∈L,t.text.size<=1048576):Cl Tryz.prog 25 [.c (.sl L.length (L.flatMap Tok.row) none)] [] fun r _=>∃Fi Ff Fw Fo Fr Fc Fe Fx,r = .tu [(aB (bA L).1.row [Fi,Ff,Fw,Fo,Fr,Fc,Fe,Fx],false),([.v (.int .i64 (bA L).2)],true)]:=by
 obtain⟨x,s1,hx⟩:=pQ (f:=kj L) (fun lv=>gS (L:=L) lv) (fun s=>pO 1 (by omega) (by omega) s) (fun s=>iU s) s0
 have ha:=(OkM.stmt (fun lv=>gS (L:=L) lv) iV _ _ _ hx).2.1 (Nat.zero_le _)
 have c1:=Dc L hL hT _ _ _ hx (Nat.zero_le _)
 have ht:bA L=il L bw (some (x,s1)):=by unfold bA;rw[hx]
 rw[ht]
 obtain⟨kz,⟨dz,iz,fz,wz,oz,lz⟩,tz,rz,cz,sz,hz⟩:=x
 simp only[Stmt.row_mk,ar,lc] at c1
 refine ae ab true Tryz.func25 rfl (by kernel_rfl) ?_
 simp only[Tryz.f25,tt,seval]
 refine CallQ.intro (c1) ?_ ?_ ?_
 ·decide
 ·simp only[tt,seval,PB,s0]
 rintro r os ⟨⟨Fi,Ff,Fw,Fo,Fr,Fc,Fe,Fx,rfl⟩,rfl⟩ hos
 simp only[tt,seval,PB,s0,aB]
 refine cS (DQ L hL hT s1 ha) ?_ ?_<;>simp only[tt,seval,PB]
 refine aa (fun hb=>?_) (fun hb=>?_)
 ·have e:il L bw (some ((Stmt.mk kz (Query.mk dz iz fz wz oz lz) tz rz cz sz hz),s1))=(bw,kn L s1):=if_pos hb
  rw[e]
  refine⟨.tu [(aB bw.row [[],[],[],[],[],[],[],[]],false),([.v (.int .i64 (kn L s1))],true)],[],⟨[],[],[],[],[],[],[],[],rfl⟩,am ?_⟩
  simp only[tt,seval,Stmt.row_mk,ar,bw,zQuery,dx,z0,ar,aB]
  first|done|((try refine⟨by omega,?_⟩);exact aK fun x=>by (try simp only[List.flatten_append,List.count_append,List.count_nil]);omega)
 ·have e:il L bw (some ((Stmt.mk kz (Query.mk dz iz fz wz oz lz) tz rz cz sz hz),s1))=((Stmt.mk kz (Query.mk dz iz fz wz oz lz) tz rz cz sz hz),-1):=if_neg (by omega)
  rw[e]
  refine⟨.tu [(aB (Stmt.mk kz (Query.mk dz iz fz wz oz lz) tz rz cz sz hz).row [Fi,Ff,Fw,Fo,Fr,Fc,Fe,Fx],false),([.v (.int .i64 (-1))],true)],[],⟨Fi,Ff,Fw,Fo,Fr,Fc,Fe,Fx,rfl⟩,am ?_⟩
  simp only[tt,seval,Stmt.row_mk,ar,ar,aB]
  first|done|((try refine⟨by omega,?_⟩);exact aK fun x=>by (try simp only[List.flatten_append,List.count_append]);omega)
end Go.Proofs.YteffjmaadkkmeaaGreatDoor
