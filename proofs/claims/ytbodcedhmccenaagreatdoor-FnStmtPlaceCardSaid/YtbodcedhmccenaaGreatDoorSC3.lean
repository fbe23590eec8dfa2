/-
  The reference's parser of statements.
  Conditions: none.
-/
import Derived.Test.YtbodcedhmccenaaGreatDoorSC2
set_option linter.unusedVariables false
set_option linter.unusedSimpArgs false
set_option linter.unusedSectionVars false
set_option maxRecDepth 8000
namespace Go.Proofs.YtbodcedhmccenaaGreatDoor
open Go Go.Dv
open Go.Vc (D d5 d6 cM bo)
def GV (L:List Tok) (m:PM ERow):Prop:=∀s x s',m s=some (ERow.mk x,s')->s.a<=L.length->Cl Tryz.prog 225 [.c (.p 9000 0)] [PB L s] fun r os=>r = .c (.sl x.length (x.flatMap Expr.row) none)/\os=[PB L s']
set_option maxHeartbeats 2000000 in
theorem oG (L:List Tok) (hL:L.length<=1048576) (hT:∀t∈L,t.text.size<=1048576) {f:Nat->PM Expr} (ok:∀lv,OkM (L:=L) (f lv)) (hf1:mc L 172 [vi 1] (f 1)):GV L (mb L f):=by
 intro s x s' h ha
 unfold mb at h
 split at h
 ·cases h
 rename_i l t hl
 obtain⟨rfl,rfl⟩:l=x/\must (aN L t 41) t=s':=by
  injection h with h;injection h with h1 h2;injection h1 with h1;exact⟨h1,h2⟩
 clear h
 refine ah ab false Tryz.func225 rfl (by kernel_rfl) ?_
 simp only[Tryz.f225,tt,seval]
 refine cS (bu L hL hT s 40 ha) ?_ ?_<;>simp only[tt,seval,PB]
 refine cS (aI L hL hT s (aN L s 40) (fun h=>ax h)) ?_ ?_<;>simp only[tt,seval,PB]
 have o1:Ok L s (must (aN L s 40) s):=Ok.must fun h=>ax h
 have ha1:=o1.2.1 ha
 generalize must (aN L s 40) s=u at *
 unfold jb at hl
 split at hl
 ·cases hl
 rename_i y u1 hy
 have ha2:=(ok 1 _ _ _ hy).2.1 ha1
 obtain⟨k1,p1,n1,v1,q1,m1,ks1,ss1⟩:=y
 have c1:=hf1 _ _ _ hy ha1
 rw[ae] at c1
 refine cS (c1) ?_ ?_<;>simp only[tt,seval,PB]
 refine dLoop.gh [.ren 10 19] ⟨by decide,by decide,?_⟩
 refine dLoop0.intro (fun f' Lo p=>∃(m:List Expr) (v:PS) (n:Nat),f' 3 = .c (.s 19 m.length)/\dt L (f 1) n m v=some (l,t)/\v.a<=L.length/\m.length<=v.a+1/\Lo=[(9000,.str (PB L v)),(19,.arr 52 (m).length ((m).flatMap Expr.row) none)]/\p=none) (fun _ Lo _=>L.length-w5 Lo) [(9000,.str (PB L u1)),(19,.arr 52 ([(Expr.mk k1 p1 n1 v1 q1 m1 ks1 ss1)]).length (([(Expr.mk k1 p1 n1 v1 q1 m1 ks1 ss1)]).flatMap Expr.row) none)] none ⟨by simp only[PB,ae,List.flatMap_nil,List.flatMap_cons,List.append_nil,List.length_nil,List.length_cons];exact ac rfl (ac rfl (al _)),an _,?_⟩ ?_
 ·simp only[tt,seval]
  exact⟨[(Expr.mk k1 p1 n1 v1 q1 m1 ks1 ss1)],u1,L.length+1,rfl,hl,ha2,by simp,rfl⟩
 ·rintro g' Lo p ⟨m,v,n,h3,hm,hv,hml,rfl,rfl⟩
  simp only[tt,seval] at h3
  simp only[tt,seval]
  refine cS (bu L hL hT v 44 hv) ?_ ?_<;>simp only[tt,seval,PB]
  cases n with
  |zero=>cases hm
  |succ n=>
  rw[dt] at hm
  cases c44:aN L v 44 with
  |true=>
   rw[if_pos c44] at hm
   split at hm
   ·cases hm
   rename_i z w hz
   have hlt:=(ax c44).2
   have hav:=aR (L:=L) (ax c44)
   have o3:=ok 1 _ _ _ hz
   have o3a:v.a+1<=w.a:=o3.1
   have hw:=o3.2.1 hav
   obtain⟨k2,p2,n2,v2,q2,m2,ks2,ss2⟩:=z
   have c2:=hf1 _ _ _ hz hav
   rw[ae] at c2
   simp only[tt,seval]
   refine cS (aI L hL hT v true (fun _=>ax c44)) ?_ ?_<;>simp only[tt,seval,PB,sI,h3]
   refine cS (c2) ?_ ?_<;>simp only[tt,seval,PB]
   refine⟨by kernel_rfl,⟨by simp only[maxLen];omega,by omega⟩,?_⟩
   refine⟨[(9000,.str (PB L w)),(19,.arr 52 ((m++[(Expr.mk k2 p2 n2 v2 q2 m2 ks2 ss2)])).length (((m++[(Expr.mk k2 p2 n2 v2 q2 m2 ks2 ss2)])).flatMap Expr.row) none)],none,by simp only[PB,ae,List.flatMap_nil,List.flatMap_cons,List.append_nil,List.length_nil,List.length_cons,List.flatMap_append,aB];exact ac rfl (ac rfl (al _)),an _,⟨m++[(Expr.mk k2 p2 n2 v2 q2 m2 ks2 ss2)],w,n,by simp,hm,hw,by simp;omega,rfl,rfl⟩,?_⟩
   show L.length-((w.a:Int)).toNat<L.length-((v.a:Int)).toNat
   omega
  |false=>
   rw[if_neg (by rw[c44];simp)] at hm
   injection hm with hm;injection hm with e1 e2;subst e1 e2
   simp only[tt,seval]
   refine cS (bu L hL hT v 41 hv) ?_ ?_<;>simp only[tt,seval,PB]
   refine cS (aI L hL hT v (aN L v 41) (fun h=>ax h)) ?_ ?_<;>simp only[tt,seval,PB,h3]
   refine⟨.c (.sl m.length (m.flatMap Expr.row) none),[PB L (must (aN L v 41) v)],⟨rfl,rfl⟩,ai ?_⟩
   simp only[tt,seval,PB]
set_option maxHeartbeats 4000000 in
theorem pN (L:List Tok) (hL:L.length<=1048576) (hT:∀t∈L,t.text.size<=1048576) {f:Nat->PM Expr} (ok:∀lv,OkM (L:=L) (f lv)) (hf1:mc L 172 [vi 1] (f 1)) (s:PS) (x:Stmt) (s':PS) (h:fW L f s=some (x,s')) (ha:s.a<=L.length):Cl Tryz.prog 123 [.c (.p 9000 0)] [PB L s] fun r os=>r = .ag (ar x.row)/\os=[PB L s']:=by
 unfold fW at h
 simp only at h
 refine ah ab false Tryz.func123 rfl (by kernel_rfl) ?_
 simp only[Tryz.f123,tt,seval]
 refine cS (cW L hL hT s 24 (by omega) (by omega) ha) ?_ ?_<;>simp only[tt,seval,PB]
 refine cS (aI L hL hT s (ap L s 24) (fun h=>ao h)) ?_ ?_<;>simp only[tt,seval,PB]
 have o1:Ok L s (must (ap L s 24) s):=Ok.must fun h=>ao h
 have ha1:=o1.2.1 ha
 generalize must (ap L s 24) s=u1 at *
 refine cS (cT L hL hT u1 2 (by omega) ha1) ?_ ?_<;>simp only[tt,seval,PB]
 have ha2:=(Ok.mText (L:=L) 2 u1).2.1 ha1
 generalize (mText L 2 u1).2=u2 at *
 generalize (mText L 2 u1).1=tab at *
 refine cS (cW L hL hT u2 25 (by omega) (by omega) ha2) ?_ ?_<;>simp only[tt,seval,PB]
 refine cS (aI L hL hT u2 (ap L u2 25) (fun h=>ao h)) ?_ ?_<;>simp only[tt,seval,PB]
 have o3:Ok L u2 (must (ap L u2 25) u2):=Ok.must fun h=>ao h
 have ha3:=o3.2.1 ha2
 generalize must (ap L u2 25) u2=u3 at *
 split at h
 ·cases h
 rename_i rs s3 hrs
 injection h with h;injection h with h1 h2;subst h1 h2
 unfold lN at hrs
 split at hrs
 ·cases hrs
 rename_i r1 v1 hr1
 obtain⟨l1⟩:=r1
 have c1:=oG L hL hT ok hf1 _ _ _ hr1 ha3
 have hav1:=(OkM.row ok _ _ _ hr1).2.1 ha3
 apply dx 0 2 3
 case h1=>
  refine dDrawn.intro [18] (.take 0 (.take 2 (.br 1 (.br 3 (.br 4 (.br 5 (.take 6 (.br 7 .done .nobr)) .nobr) .nobr) .nobr) (.br 3 (.take 1 (.br 4 (.br 5 (.take 6 (.br 7 .done .nobr)) .nobr) .nobr)) .nobr)))) (by kernel_rfl) ?_
  simp only[tt,seval]
  all_goals repeat' first|refine cj ?_ ?_|refine aO ?_ ?_
  all_goals
   refine cS (c1) ?_ ?_
   ·simp only[tt,seval,PB]
    decide
   simp only[tt,seval,PB]
  all_goals repeat' first|refine gE ?_ ?_|refine cK ?_ ?_|refine cL ?_ ?_
  all_goals
   refine⟨by kernel_rfl,⟨by simp only[maxLen];omega,by omega⟩,?_⟩
  all_goals exact⟨rfl,rfl,rfl,rfl,rfl⟩
 case h2=>
  intro f' hj0 hj1 hj2
  simp only[tt,seval]
  refine dLoop.gh [.ren 20 31] ⟨by decide,by decide,?_⟩
  refine dLoop0.intro (fun f' Lo p=>∃(m:List ERow) (v:PS) (n:Nat),dt L (mb L f) n m v=some (rs,s3)/\v.a<=L.length/\m.length<=v.a+1/\Lo=[(9000,.str (PB L v)),(3,.str [.v (.int .i64 2),.v (.bool false),.v (.slice none 0 0),.v (.slice none 0 0),.v (.slice none 0 0),.v (.slice none 0 0),.v (.int .i64 0),.v (.string tab),.s 31 (m).length,.v (.slice none 0 0),.v (.slice none 0 0),.v (.slice none 0 0)]),(31,.arr 28 (m).length ((m).flatMap ERow.row) none),(2,.str [.v (.int .i64 0),.v (.bool false),.v (.slice none 0 0),.v (.slice none 0 0),.v (.slice none 0 0),.v (.slice none 0 0),.v (.int .i64 0),.v (.string ByteArray.empty),.v (.slice none 0 0),.v (.slice none 0 0),.v (.slice none 0 0),.v (.slice none 0 0)])]/\p=none) (fun _ Lo _=>L.length-w5 Lo) [(9000,.str (PB L v1)),(3,.str [.v (.int .i64 2),.v (.bool false),.v (.slice none 0 0),.v (.slice none 0 0),.v (.slice none 0 0),.v (.slice none 0 0),.v (.int .i64 0),.v (.string tab),.s 31 ([ERow.mk l1]).length,.v (.slice none 0 0),.v (.slice none 0 0),.v (.slice none 0 0)]),(31,.arr 28 ([ERow.mk l1]).length (([ERow.mk l1]).flatMap ERow.row) none),(2,.str [.v (.int .i64 0),.v (.bool false),.v (.slice none 0 0),.v (.slice none 0 0),.v (.slice none 0 0),.v (.slice none 0 0),.v (.int .i64 0),.v (.string ByteArray.empty),.v (.slice none 0 0),.v (.slice none 0 0),.v (.slice none 0 0),.v (.slice none 0 0)])] none ⟨by simp only[dm,PB,List.flatMap_nil,List.flatMap_cons,List.append_nil,List.length_nil,List.length_cons,ERow.row_mk];exact ac rfl (ac rfl (ac rfl (ac rfl (al _)))),an _,?_⟩ ?_
  ·simp only[tt,seval]
   exact⟨[ERow.mk l1],v1,L.length+1,hrs,hav1,by simp,rfl⟩
  ·rintro g' Lo p ⟨m,v,n,hm,hv,hml,rfl,rfl⟩
   simp only[tt,seval,hj0]
   refine cS (bu L hL hT v 44 hv) ?_ ?_<;>simp only[tt,seval,PB,hj0,hj1,hj2]
   cases n with
   |zero=>cases hm
   |succ n=>
   rw[dt] at hm
   cases c44:aN L v 44 with
   |true=>
    rw[if_pos c44] at hm
    split at hm
    ·cases hm
    rename_i z w hz
    have hlt:=(ax c44).2
    have hav:=aR (L:=L) (ax c44)
    have o3:=OkM.row ok _ _ _ hz
    have o3a:v.a+1<=w.a:=o3.1
    have hw:=o3.2.1 hav
    obtain⟨l2⟩:=z
    have c2:=oG L hL hT ok hf1 _ _ _ hz hav
    simp only[tt,seval]
    refine cS (aI L hL hT v true (fun _=>ax c44)) ?_ ?_<;>simp only[tt,seval,PB,sI]
    apply bx 3
    case h1=>
     refine dDrawn.intro [29] (.take 0 (.take 2 (.br 1 (.br 3 (.br 4 (.br 5 (.take 6 (.br 7 .done .nobr)) .nobr) .nobr) .nobr) (.br 3 (.take 1 (.br 4 (.br 5 (.take 6 (.br 7 .done .nobr)) .nobr) .nobr)) .nobr)))) (by kernel_rfl) ?_
     simp only[tt,seval]
     all_goals try simp only[tt,seval,hj0,hj2]
     all_goals repeat' first|refine cj ?_ ?_|refine aO ?_ ?_
     all_goals
      refine cS (c2) ?_ ?_
      ·simp only[tt,seval,PB]
       decide
      simp only[tt,seval,PB,hj2]
     all_goals repeat' first|refine gE ?_ ?_|refine cK ?_ ?_|refine cL ?_ ?_
     all_goals
      refine⟨by kernel_rfl,⟨by simp only[maxLen];omega,by omega⟩,?_⟩
     all_goals exact⟨rfl,rfl,rfl⟩
    case h2=>
     intro f' hk0
     refine⟨[(9000,.str (PB L w)),(3,.str [.v (.int .i64 2),.v (.bool false),.v (.slice none 0 0),.v (.slice none 0 0),.v (.slice none 0 0),.v (.slice none 0 0),.v (.int .i64 0),.v (.string tab),.s 31 ((m++[ERow.mk l2])).length,.v (.slice none 0 0),.v (.slice none 0 0),.v (.slice none 0 0)]),(31,.arr 28 ((m++[ERow.mk l2])).length (((m++[ERow.mk l2])).flatMap ERow.row) none),(2,.str [.v (.int .i64 0),.v (.bool false),.v (.slice none 0 0),.v (.slice none 0 0),.v (.slice none 0 0),.v (.slice none 0 0),.v (.int .i64 0),.v (.string ByteArray.empty),.v (.slice none 0 0),.v (.slice none 0 0),.v (.slice none 0 0),.v (.slice none 0 0)])],none,by simp only[dm,PB,List.flatMap_nil,List.flatMap_cons,List.append_nil,List.length_nil,List.length_cons,List.flatMap_append,aB,ERow.row_mk];exact ac rfl (ac rfl (ac rfl (ac rfl (al _)))),an _,⟨m++[ERow.mk l2],w,n,hm,hw,by simp;omega,rfl,rfl⟩,?_⟩
     show L.length-((w.a:Int)).toNat<L.length-((v.a:Int)).toNat
     omega
   |false=>
    rw[if_neg (by rw[c44];simp)] at hm
    injection hm with hm;injection hm with e1 e2;subst e1 e2
    simp only[tt,seval]
    refine⟨.ag (ar (Stmt.mk 2 bY tab m [] [] []).row),[PB L v],⟨rfl,rfl⟩,ai ?_⟩
    simp only[tt,seval,Stmt.row_mk,ay,bY,PB,ay,PB]
set_option maxHeartbeats 8000000 in
theorem pO (L:List Tok) (hL:L.length<=1048576) (hT:∀t∈L,t.text.size<=1048576) {f:Nat->PM Expr} (ok:∀lv,OkM (L:=L) (f lv)) (hf1:mc L 172 [vi 1] (f 1)) (s:PS) (x:Stmt) (s':PS) (h:fX L f s=some (x,s')) (ha:s.a<=L.length):Cl Tryz.prog 124 [.c (.p 9000 0)] [PB L s] fun r os=>r = .ag (ar x.row)/\os=[PB L s']:=by
 unfold fX at h
 simp only at h
 refine ah ab false Tryz.func124 rfl (by kernel_rfl) ?_
 simp only[Tryz.f124,tt,seval]
 refine cS (cT L hL hT s 2 (by omega) ha) ?_ ?_<;>simp only[tt,seval,PB]
 have ha1:=(Ok.mText (L:=L) 2 s).2.1 ha
 generalize (mText L 2 s).2=u0 at *
 generalize (mText L 2 s).1=tab at *
 refine cS (cW L hL hT u0 27 (by omega) (by omega) ha1) ?_ ?_<;>simp only[tt,seval,PB]
 refine cS (aI L hL hT u0 (ap L u0 27) (fun h=>ao h)) ?_ ?_<;>simp only[tt,seval,PB]
 have o1:Ok L u0 (must (ap L u0 27) u0):=Ok.must fun h=>ao h
 have ha2:=o1.2.1 ha1
 generalize must (ap L u0 27) u0=u1 at *
 split at h
 ·cases h
 rename_i l s2 hl
 split at h
 ·cases h
 rename_i w s3 hwh
 injection h with h;injection h with h1 h2;subst h1 h2
 refine dLoop.gh [.virtC 3 9 16 9,.virtC 3 10 27 52] ⟨by decide,?_⟩
 simp only[tt,seval]
 refine⟨by decide,?_⟩
 simp only[tt,seval]
 refine dLoop0.intro (fun f' Lo p=>∃(m:List (ByteArray×Expr)) (v:PS) (n:Nat) (F1 F2:Fp),(match lE L f v with|none=>none|some (x,s1)=>dt L (lE L f) n (m++[x]) s1)=some (l,s2)/\v.a<=L.length/\m.length<=v.a/\Lo=[(9000,.str (PB L v)),(3,.str [.v (.int .i64 3),.v (.bool false),.v (.slice none 0 0),.v (.slice none 0 0),.v (.slice none 0 0),.v (.slice none 0 0),.v (.int .i64 0),.v (.string tab),.v (.slice none 0 0),.s 16 (m).length,.s 27 (m).length,.v (.slice none 0 0)]),(16,.arr 9 (m).length (((m).map (·.1)).flatMap srow) F1),(27,.arr 52 (m).length (((m).map (·.2)).flatMap Expr.row) F2),(2,.str [.v (.int .i64 0),.v (.bool false),.v (.slice none 0 0),.v (.slice none 0 0),.v (.slice none 0 0),.v (.slice none 0 0),.v (.int .i64 0),.v (.string ByteArray.empty),.v (.slice none 0 0),.v (.slice none 0 0),.v (.slice none 0 0),.v (.slice none 0 0)])]/\p=none) (fun _ Lo _=>L.length-w5 Lo) [(9000,.str (PB L u1)),(3,.str [.v (.int .i64 3),.v (.bool false),.v (.slice none 0 0),.v (.slice none 0 0),.v (.slice none 0 0),.v (.slice none 0 0),.v (.int .i64 0),.v (.string tab),.v (.slice none 0 0),.s 16 (([]:List (ByteArray×Expr))).length,.s 27 (([]:List (ByteArray×Expr))).length,.v (.slice none 0 0)]),(16,.arr 9 (([]:List (ByteArray×Expr))).length (((([]:List (ByteArray×Expr))).map (·.1)).flatMap srow) (some [])),(27,.arr 52 (([]:List (ByteArray×Expr))).length (((([]:List (ByteArray×Expr))).map (·.2)).flatMap Expr.row) (some [])),(2,.str [.v (.int .i64 0),.v (.bool false),.v (.slice none 0 0),.v (.slice none 0 0),.v (.slice none 0 0),.v (.slice none 0 0),.v (.int .i64 0),.v (.string ByteArray.empty),.v (.slice none 0 0),.v (.slice none 0 0),.v (.slice none 0 0),.v (.slice none 0 0)])] none ⟨ac rfl (ac rfl (ac rfl (ac rfl (ac rfl (al _))))),an _,?_⟩ ?_
 ·simp only[tt,seval]
  exact⟨[],u1,L.length+1,some [],some [],hl,ha2,by simp,rfl⟩
 ·rintro g' Lo p ⟨m,v,n,F1,F2,hm,hv,hml,rfl,rfl⟩
  simp only[tt,seval]
  split at hm
  ·cases hm
  rename_i x y1 hset
  obtain⟨xt,e⟩:=x
  unfold lE at hset
  simp only at hset
  have c1:=cT L hL hT v 2 (by omega) hv
  have o0:=Ok.mText (L:=L) 2 v
  have o0a:=o0.1
  have hu2:=o0.2.1 hv
  generalize (mText L 2 v).2=u2 at *
  generalize (mText L 2 v).1=tx at *
  apply dx 0 2 3
  case h1=>
   refine dDrawn.intro [14] (.take 0 (.take 2 (.br 1 (.br 3 (.br 4 (.br 5 (.take 6 (.br 7 .done .nobr)) .nobr) .nobr) .nobr) (.br 3 (.take 1 (.br 4 (.br 5 (.take 6 (.br 7 .done .nobr)) .nobr) .nobr)) .nobr)))) (by kernel_rfl) ?_
   simp only[tt,seval]
   all_goals repeat' first|refine cj ?_ ?_|refine aO ?_ ?_
   all_goals
    refine cS (c1) ?_ ?_
    ·simp only[tt,seval,PB]
     decide
    simp only[tt,seval,PB]
   all_goals repeat' first|refine gE ?_ ?_|refine cK ?_ ?_|refine cL ?_ ?_
   all_goals
    refine⟨by kernel_rfl,⟨by simp only[maxLen];omega,by omega⟩,?_⟩
   all_goals exact⟨rfl,rfl,rfl,rfl,rfl⟩
  case h2=>
   intro f' hj0 hj1 hj2
   simp only[tt,seval,hj0]
   have o2:Ok L u2 (must (aN L u2 61) u2):=Ok.must fun h=>ax h
   refine cS (bu L hL hT u2 61 hu2) ?_ ?_<;>simp only[tt,seval,PB]
   refine cS (aI L hL hT u2 (aN L u2 61) (fun h=>ax h)) ?_ ?_<;>simp only[tt,seval,PB]
   have hu3:=o2.2.1 hu2
   have o2a:=o2.1
   generalize must (aN L u2 61) u2=u3 at *
   split at hset
   ·cases hset
   rename_i e5 y5 he
   obtain⟨rfl,rfl,rfl⟩:xt=tx/\e=e5/\y1=y5:=by cases hset;exact⟨rfl,rfl,rfl⟩
   have o4:=ok 1 _ _ _ he
   have o4a:=o4.1
   have hy1:=o4.2.1 hu3
   obtain⟨k2,p2,n2,v2,q2,m2,ks2,ss2⟩:=e
   have c2:=hf1 _ _ _ he hu3
   rw[ae] at c2
   apply dx 0 2 3
   case h1=>
    refine dDrawn.intro [25] (.take 0 (.take 2 (.br 1 (.br 3 (.br 4 (.br 5 (.take 6 (.br 7 .done .nobr)) .nobr) .nobr) .nobr) (.br 3 (.take 1 (.br 4 (.br 5 (.take 6 (.br 7 .done .nobr)) .nobr) .nobr)) .nobr)))) (by kernel_rfl) ?_
    simp only[tt,seval]
    all_goals try simp only[tt,seval,hj0,hj2]
    all_goals repeat' first|refine cj ?_ ?_|refine aO ?_ ?_
    all_goals
     refine cS (c2) ?_ ?_
     ·simp only[tt,seval,PB]
      decide
     simp only[tt,seval,PB,hj0,hj1,hj2]
    all_goals repeat' first|refine gE ?_ ?_|refine cK ?_ ?_|refine cL ?_ ?_
    all_goals
     refine⟨by kernel_rfl,⟨by simp only[maxLen];omega,by omega⟩,?_⟩
    all_goals exact⟨rfl,rfl,rfl,rfl,rfl⟩
   case h2=>
    intro f' hk0 hk1 hk2
    simp only[tt,seval,hk0]
    refine cS (bu L hL hT y1 44 hy1) ?_ ?_<;>simp only[tt,seval,PB,hk0]
    cases c44:aN L y1 44 with
    |true=>
     have hlt:=(ax c44).2
     simp only[tt,seval]
     refine cS (aI L hL hT y1 true (fun _=>ax c44)) ?_ ?_<;>simp only[tt,seval,PB,sI]
     cases n with
     |zero=>cases hm
     |succ n=>
     rw[dt,if_pos c44] at hm
     refine⟨[(9000,.str (PB L (adv y1))),(3,.str [.v (.int .i64 3),.v (.bool false),.v (.slice none 0 0),.v (.slice none 0 0),.v (.slice none 0 0),.v (.slice none 0 0),.v (.int .i64 0),.v (.string tab),.v (.slice none 0 0),.s 16 ((m++[(xt,(Expr.mk k2 p2 n2 v2 q2 m2 ks2 ss2))])).length,.s 27 ((m++[(xt,(Expr.mk k2 p2 n2 v2 q2 m2 ks2 ss2))])).length,.v (.slice none 0 0)]),(16,.arr 9 ((m++[(xt,(Expr.mk k2 p2 n2 v2 q2 m2 ks2 ss2))])).length ((((m++[(xt,(Expr.mk k2 p2 n2 v2 q2 m2 ks2 ss2))])).map (·.1)).flatMap srow) none),(27,.arr 52 ((m++[(xt,(Expr.mk k2 p2 n2 v2 q2 m2 ks2 ss2))])).length ((((m++[(xt,(Expr.mk k2 p2 n2 v2 q2 m2 ks2 ss2))])).map (·.2)).flatMap Expr.row) none),(2,.str [.v (.int .i64 0),.v (.bool false),.v (.slice none 0 0),.v (.slice none 0 0),.v (.slice none 0 0),.v (.slice none 0 0),.v (.int .i64 0),.v (.string ByteArray.empty),.v (.slice none 0 0),.v (.slice none 0 0),.v (.slice none 0 0),.v (.slice none 0 0)])],none,by simp only[dm,PB,ae,List.flatMap_nil,List.flatMap_cons,List.append_nil,List.length_nil,List.length_cons,List.flatMap_append,aB,List.map_append,List.map_cons,List.map_nil,srow];exact ac rfl (ac rfl (ac rfl (ac rfl (ac rfl (al _))))),an _,⟨m++[(xt,(Expr.mk k2 p2 n2 v2 q2 m2 ks2 ss2))],adv y1,n,none,none,(by revert hm;cases lE L f (adv y1) with|none=>exact id|some p=>exact id),aR (ax c44),by simp [adv];omega,rfl,rfl⟩,?_⟩
     show L.length-(((adv y1).a:Int)).toNat<L.length-((v.a:Int)).toNat
     show L.length-(((y1.a+1:Nat):Int)).toNat<L.length-((v.a:Int)).toNat
     omega
    |false=>
     have hm:some (m++[(xt,(Expr.mk k2 p2 n2 v2 q2 m2 ks2 ss2))],y1)=some (l,s2):=by
      cases n with
      |zero=>cases hm
      |succ n=>rw[dt,if_neg (by rw[c44];simp)] at hm;exact hm
     injection hm with hm;injection hm with e1 e2;subst e1 e2
     simp only[tt,seval]
     have cw:=iY L hL hT hf1 _ _ _ hwh hy1
     refine cS (cw) ?_ ?_<;>simp only[tt,seval,PB,hk1,hk2]
     refine⟨.ag (ar (Stmt.mk 3 bY tab [] ((m++[(xt,(Expr.mk k2 p2 n2 v2 q2 m2 ks2 ss2))]).map (·.1)) ((m++[(xt,(Expr.mk k2 p2 n2 v2 q2 m2 ks2 ss2))]).map (·.2)) w).row),[PB L s3],⟨rfl,rfl⟩,ai ?_⟩
     simp only[tt,seval,Stmt.row_mk,ay,bY,PB,ae,ay,PB,List.map_append,aB,List.length_map,List.flatMap_append,srow]
theorem wf {L:List Tok} {s:PS} {j k:Nat} (h:ap L s j=true) (hn:kw j≠kw k):ap L s k=false:=by
 unfold ap iA at h ⊢
 cases ht:gj L s 0 with
 |none=>rfl
 |some t=>
  rw[ht] at h
  simp only[Bool.and_eq_true,decide_eq_true_eq] at h
  simp [h.2,hn]
theorem yW {L:List Tok} {f:Nat->PM Expr} (hf:∀lv,OkM (L:=L) (f lv)) {s:PS} {x:Query} {s':PS} (hk:ap L s 1=false) (h:stepQ L f s=some (x,s')):s'=fl s:=by
 unfold stepQ at h
 simp only at h
 rw[hk] at h
 split at h
 ·cases h
 rename_i its s2 h1
 split at h
 ·cases h
 rename_i frs s4 h2
 split at h
 ·cases h
 rename_i wh s5 h3
 split at h
 ·cases h
 rename_i od s6 h4
 injection h with h;injection h with _ h;subst h
 have:=(Ok.tkIf fun h=>ao h).trans ((OkM.items hf _ _ _ h1).trans ((Ok.must fun h=>ao h).trans ((Ok.sourceM _).trans ((OkM.sources hf _ _ _ _ _ h2).trans ((OkM.wher hf _ _ _ h3).trans ((OkM.order hf _ _ _ h4).trans (Ok.limitM _)))))))
 exact this.2.2 rfl
set_option maxHeartbeats 4000000 in
theorem sL (L:List Tok) (hL:L.length<=1048576) (hT:∀t∈L,t.text.size<=1048576) {f:Nat->PM Expr} {q:PM Query} (ok:∀lv,OkM (L:=L) (f lv)) (hf1:mc L 172 [vi 1] (f 1)) (hq:Am L 129 q) (hqd:∀s,Df q s) (hqb:∀s x s',ap L s 1=false->q s=some (x,s')->s'=fl s) (s:PS) (x:Stmt) (s':PS) (h:gA L f q s=some (x,s')) (ha:s.a<=L.length):Cl Tryz.prog 55 [.c (.p 9000 0)] [PB L s] fun r os=>(∃y:Stmt,r = .ag (ar y.row)/\(s'.b=false->y=x))/\os=[PB L s']:=by
 unfold gA at h
 refine ah ab false Tryz.func55 rfl (by kernel_rfl) ?_
 simp only[Tryz.f55,tt,seval]
 refine cS (aV L hL hT s 23 (by omega) (by omega) ha) ?_ ?_<;>simp only[tt,seval,PB]
 cases c1:ap L s 1 with
 |true=>
  have c23:ap L s 23=false:=wf c1 (by decide +kernel)
  have c26:ap L s 26=false:=wf c1 (by decide +kernel)
  have c28:ap L s 28=false:=wf c1 (by decide +kernel)
  rw[if_pos c1] at h
  split at h
  ·cases h
  rename_i y s1 hy
  injection h with h;injection h with h1 h2;subst h1 h2
  have cq:=hq _ _ _ hy ha
  obtain⟨d1,i1,f1,w1,o1,l1⟩:=y
  rw[ay] at cq
  simp only[tt,seval,c23,fY]
  refine cS (aV L hL hT s 26 (by omega) (by omega) ha) ?_ ?_<;>simp only[tt,seval,PB]
  simp only[tt,seval,c26,fY]
  refine cS (aV L hL hT s 28 (by omega) (by omega) ha) ?_ ?_<;>simp only[tt,seval,PB]
  simp only[tt,seval,c28,fY]
  refine cS (cq) ?_ ?_<;>simp only[tt,seval,PB]
  refine⟨.ag (ar (Stmt.mk 1 (Query.mk d1 i1 f1 w1 o1 l1) z0 [] [] [] []).row),[PB L (s1)],⟨⟨Stmt.mk 1 (Query.mk d1 i1 f1 w1 o1 l1) z0 [] [] [] [],rfl,fun _=>rfl⟩,rfl⟩,ai ?_⟩
  simp only[tt,seval,Stmt.row_mk,ay,dm,PB,z0,ay,PB]
 |false=>
 rw[if_neg (by rw[c1];simp)] at h
 cases c23:ap L s 23 with
 |true=>
  rw[if_pos c23] at h
  simp only[tt,seval,gC]
  have ci:=pN L hL hT ok hf1 _ _ _ h (aR (ao c23))
  obtain⟨kz,⟨dz,iz,fz,wz,oz,lz⟩,tz,rz,cz,sz,hz⟩:=x
  simp only[Stmt.row_mk,ay,lc] at ci
  refine cS (ci) ?_ ?_<;>simp only[tt,seval,PB]
  refine⟨.ag (ar ((Stmt.mk kz (Query.mk dz iz fz wz oz lz) tz rz cz sz hz)).row),[PB L (s')],⟨⟨(Stmt.mk kz (Query.mk dz iz fz wz oz lz) tz rz cz sz hz),rfl,fun _=>rfl⟩,rfl⟩,ai ?_⟩
  simp only[tt,seval,Stmt.row_mk,ay,PB,ay,PB]
 |false=>
 rw[if_neg (by rw[c23];simp)] at h
 simp only[tt,seval,fY]
 refine cS (aV L hL hT s 26 (by omega) (by omega) ha) ?_ ?_<;>simp only[tt,seval,PB]
 cases c26:ap L s 26 with
 |true=>
  rw[if_pos c26] at h
  simp only[tt,seval,gC]
  have ci:=pO L hL hT ok hf1 _ _ _ h (aR (ao c26))
  obtain⟨kz,⟨dz,iz,fz,wz,oz,lz⟩,tz,rz,cz,sz,hz⟩:=x
  simp only[Stmt.row_mk,ay,lc] at ci
  refine cS (ci) ?_ ?_<;>simp only[tt,seval,PB]
  refine⟨.ag (ar ((Stmt.mk kz (Query.mk dz iz fz wz oz lz) tz rz cz sz hz)).row),[PB L (s')],⟨⟨(Stmt.mk kz (Query.mk dz iz fz wz oz lz) tz rz cz sz hz),rfl,fun _=>rfl⟩,rfl⟩,ai ?_⟩
  simp only[tt,seval,Stmt.row_mk,ay,PB,ay,PB]
 |false=>
 rw[if_neg (by rw[c26];simp)] at h
 simp only[tt,seval,fY]
 refine cS (aV L hL hT s 28 (by omega) (by omega) ha) ?_ ?_<;>simp only[tt,seval,PB]
 cases c28:ap L s 28 with
 |true=>
  rw[if_pos c28] at h
  have hav:=aR (L:=L) (ao c28)
  unfold gI at h
  simp only at h
  simp only[tt,seval,gC]
  refine cS (cW L hL hT (adv s) 3 (by omega) (by omega) hav) ?_ ?_<;>simp only[tt,seval,PB]
  refine cS (aI L hL hT (adv s) (ap L (adv s) 3) (fun h=>ao h)) ?_ ?_<;>simp only[tt,seval,PB]
  have o1:Ok L (adv s) (must (ap L (adv s) 3) (adv s)):=Ok.must fun h=>ao h
  have ha1:=o1.2.1 hav
  generalize must (ap L (adv s) 3) (adv s)=u1 at *
  refine cS (cT L hL hT u1 2 (by omega) ha1) ?_ ?_<;>simp only[tt,seval,PB]
  have ha2:=(Ok.mText (L:=L) 2 u1).2.1 ha1
  generalize (mText L 2 u1).2=u2 at *
  generalize (mText L 2 u1).1=tab at *
  split at h
  ·cases h
  rename_i w s2 hw
  injection h with h;injection h with h1 h2;subst h1 h2
  have cw:=iY L hL hT hf1 _ _ _ hw ha2
  refine cS (cw) ?_ ?_<;>simp only[tt,seval,PB]
  refine⟨.ag (ar (Stmt.mk 4 bY tab [] [] [] w).row),[PB L (s2)],⟨⟨Stmt.mk 4 bY tab [] [] [] w,rfl,fun _=>rfl⟩,rfl⟩,ai ?_⟩
  simp only[tt,seval,Stmt.row_mk,ay,bY,PB,ay,PB]
 |false=>
  rw[if_neg (by rw[c28];simp)] at h
  injection h with h;injection h with h1 h2;subst h1 h2
  simp only[tt,seval,fY]
  obtain⟨y,s1,hy⟩:=hqd s
  have e1:=hqb _ _ _ c1 hy
  subst e1
  have cq:=hq _ _ _ hy ha
  obtain⟨d1,i1,f1,w1,o1,l1⟩:=y
  rw[ay] at cq
  refine cS (cq) ?_ ?_<;>simp only[tt,seval,PB]
  refine⟨.ag (ar (Stmt.mk 1 (Query.mk d1 i1 f1 w1 o1 l1) z0 [] [] [] []).row),[PB L (fl s)],⟨⟨_,rfl,fun h=>by cases h⟩,rfl⟩,ai ?_⟩
  simp only[tt,seval,Stmt.row_mk,ay,dm,PB,z0,ay,PB]
theorem yX {L:List Tok} {s:PS} (h:¬ 0<=fM L s):s.b=false:=by
 unfold fM at h
 split at h
 ·rename_i hb;exact hb.1
 ·exact absurd (Int.natCast_nonneg _) h
theorem wg (L:List Tok) (hL:L.length<=1048576) (hT:∀t∈L,t.text.size<=1048576):Cl Tryz.prog 14 [.c (.sl L.length (L.flatMap Tok.row) none)] [] fun r _=>r = .tu [(ar (eG L).1.row,false),([.v (.int .i64 (eG L).2)],true)]:=by
 have ok:=fun lv=>eh (L:=L) lv
 obtain⟨x,s1,hx⟩:=pK (f:=hD L) ok (fun s=>jc 1 (by omega) (by omega) s) (fun s=>jd s) s0
 have ha:=(OkM.stmt ok je _ _ _ hx).2.1 (Nat.zero_le _)
 have c1:=sL L hL hT ok (rD L hL hT 1 (by omega) (by omega)) (wb L hL hT) (fun s=>jd s) (fun s x s' hk h=>by
  rw[yT] at h
  exact yW ok hk h) _ _ _ hx (Nat.zero_le _)
 have ht:eG L=ff L eg (some (x,s1)):=by unfold eG;rw[hx]
 rw[ht]
 refine ah ab false Tryz.func14 rfl (by kernel_rfl) ?_
 simp only[Tryz.f14,tt,seval]
 refine CallQ.intro (c1) ?_ ?_ ?_
 ·decide
 ·simp only[tt,seval,PB,s0]
 rintro r os ⟨⟨y,rfl,hy⟩,rfl⟩ hos
 simp only[tt,seval,PB,s0]
 obtain⟨kz,⟨dz,iz,fz,wz,oz,lz⟩,tz,rz,cz,sz,hz⟩:=y
 simp only[tt,seval,Stmt.row_mk,ay,dm,ay]
 refine cS (uu L hL hT s1 ha) ?_ ?_<;>simp only[tt,seval,PB]
 refine aa (fun hb=>?_) (fun hb=>?_)
 ·have e:ff L eg (some (x,s1))=(eg,fM L s1):=if_pos hb
  rw[e]
  refine⟨_,[],rfl,ai ?_⟩
  simp only[tt,seval,Stmt.row_mk,ay,bY,dm,z0,ay,eg]
 ·have e:ff L eg (some (x,s1))=(x,-1):=if_neg (by omega)
  rw[e,<-hy (yX (by omega))]
  refine⟨_,[],rfl,ai ?_⟩
  simp only[tt,seval,Stmt.row_mk,ay,ay]
end Go.Proofs.YtbodcedhmccenaaGreatDoor
