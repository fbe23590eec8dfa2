/-
  The program's parser of statements.
  Conditions: none.
-/
import Derived.Test.YtbodcedhmccenaaGreatDoorSC3
import Derived.Test.YtbodcedhmccenaaGreatDoorSD2
set_option linter.unusedVariables false
set_option linter.unusedSimpArgs false
set_option linter.unusedSectionVars false
set_option maxRecDepth 8000
namespace Go.Proofs.YtbodcedhmccenaaGreatDoor
open Go Go.Dv Go.Cv
open Go.Vc (D d5 d6 cM bo)
theorem rV (L:List Tok) (hL:L.length<=1048576) (hT:∀t∈L,t.text.size<=1048576) {f:Nat->PM Expr} (ok:∀lv,OkM (L:=L) (f lv)) (hf1:gF L 171 (f 1)) (s:PS) (x:List Expr) (s':PS) (h:mb L f s=some (ERow.mk x,s')) (ha:s.a<=L.length):Cl Tryz.prog 118 [.c (.p 9000 0)] [PB L s] fun r os=>(∃F,r = .c (.ow 52 x.length (x.flatMap Expr.row) (some F)))/\os=[PB L s']:=by
 unfold mb at h
 split at h
 ·cases h
 rename_i l t hl
 obtain⟨rfl,rfl⟩:l=x/\must (aN L t 41) t=s':=by
  injection h with h;injection h with h1 h2;injection h1 with h1;exact⟨h1,h2⟩
 clear h
 have o1:Ok L s (must (aN L s 40) s):=Ok.must fun h=>ax h
 have ha1:=o1.2.1 ha
 have cl:=rT L hL hT (ok 1) hf1 _ _ _ hl ha1
 have ha2:=(OkM.ors ok _ _ _ hl).2.1 ha1
 refine ah ab true Tryz.func118 rfl (by kernel_rfl) ?_
 simp only[Tryz.f118,tt,seval]
 refine cS (db L hL hT s 40 ha) ?_ ?_<;>simp only[tt,seval,PB]
 generalize must (aN L s 40) s=u at *
 refine CallQ.intro (cl) ?_ ?_ ?_
 ·decide
 ·simp only[tt,seval,PB]
 rintro r os ⟨⟨hlen,F,rfl⟩,rfl⟩ hos
 simp only[tt,seval,PB]
 refine cS (db L hL hT t 41 ha2) ?_ ?_<;>simp only[tt,seval,PB]
 refine⟨.c (.ow 52 l.length (l.flatMap Expr.row) (some F)),[PB L (must (aN L t 41) t)],⟨⟨_,rfl⟩,rfl⟩,ai ?_⟩
 simp only[tt,seval,PB]
 first|done|exact Sb.refl _|((try refine⟨by omega,?_⟩);exact aG fun x=>by (try simp only[fb]);omega)
set_option maxHeartbeats 4000000 in
theorem rX (L:List Tok) (hL:L.length<=1048576) (hT:∀t∈L,t.text.size<=1048576) {f:Nat->PM Expr} (ok:∀lv,OkM (L:=L) (f lv)) (hf1:gF L 171 (f 1)) (tab:ByteArray) (cs:List ByteArray) (es:List Expr) (hc:cs.length<=1048580) (he:es.length<=1048580) (Fs:List (List Nat)) (s:PS) (x:ByteArray×Expr) (s':PS) (h:lE L f s=some (x,s')) (ha:s.a<=L.length):ClT Tryz.prog 120 [.c (.p 9000 0),.c (.p 9001 0)] [PB L s,[.v (.int .i64 3),.v (.bool false),.v (.slice none 0 0),.v (.slice none 0 0),.v (.slice none 0 0),.v (.slice none 0 0),.v (.int .i64 0),.v (.string tab),.v (.slice none 0 0),.ow 9 (cs).length ((cs).flatMap srow) (some []),.ow 52 (es).length ((es).flatMap Expr.row) (some (Fs)),.v (.slice none 0 0)]] Fs.flatten fun r os=>r = .tu []/\∃F,os=[PB L s',[.v (.int .i64 3),.v (.bool false),.v (.slice none 0 0),.v (.slice none 0 0),.v (.slice none 0 0),.v (.slice none 0 0),.v (.int .i64 0),.v (.string tab),.v (.slice none 0 0),.ow 9 ((cs++[x.1])).length (((cs++[x.1])).flatMap srow) (some []),.ow 52 ((es++[x.2])).length (((es++[x.2])).flatMap Expr.row) (some (F)),.v (.slice none 0 0)]]:=by
 unfold lE at h
 simp only at h
 have c1:=cE L hL hT s 2 ha
 have ha1:=(Ok.mText (L:=L) 2 s).2.1 ha
 generalize (mText L 2 s).2=u at *
 generalize (mText L 2 s).1=tx at *
 split at h
 ·cases h
 rename_i e t hx
 injection h with h;injection h with h1 h2;subst h1 h2
 have o3:Ok L u (must (aN L u 61) u):=Ok.must fun h=>ax h
 have ha3:=o3.2.1 ha1
 have cSg:=db L hL hT u 61 ha1
 generalize must (aN L u 61) u=u3 at *
 obtain⟨k1,p1,n1,v1,q1,m1,ks1,ss1⟩:=e
 have c2:=hf1 _ _ _ hx ha3
 rw[ae] at c2
 have hA:=bT aJ es
 have hT1:∀Z,List.take (es.length*10) (es.flatMap Expr.row++Z)=es.flatMap Expr.row:=fun Z=>List.take_left' hA
 have hT2:∀a0 a1 a2 a3 a4 a5 a6 a7 a8 a9,List.drop (es.length*10+10) (es.flatMap Expr.row++[a0,a1,a2,a3,a4,a5,a6,a7,a8,a9])=[]:=fun _ _ _ _ _ _ _ _ _ _=>List.drop_eq_nil_of_le (by simp [hA])
 have hT4:∀a0 a1 a2 a3 a4 a5 a6 a7 a8 a9,(es.flatMap Expr.row++[a0,a1,a2,a3,a4,a5,a6,a7,a8,a9]).length=es.length*10+10:=fun _ _ _ _ _ _ _ _ _ _=>by simp [hA]
 refine ng ab (some (Fs)) _ (fun ps h=>by injection h with h;subst h;first|rfl|simp) Tryz.func120 rfl (by kernel_rfl) ?_
 simp only[Tryz.f120,tt,seval]
 apply zm 0 1
 case h1=>
  refine dDrawn.intro [10] (.take 0 (.take 1 (.take 2 (.take 3 (.take 5 (.br 4 (.br 6 (.br 7 (.br 8 (.take 9 (.take 10 (.br 11 .done .nobr))) .nobr) .nobr) .nobr) (.br 6 (.take 4 (.br 7 (.br 8 (.take 9 (.take 10 (.br 11 .done .nobr))) .nobr) .nobr)) .nobr))))))) (by kernel_rfl) ?_
  simp only[tt,seval]
  all_goals try simp only[tt,seval,PB]
  all_goals repeat' first|refine cj ?_ ?_|refine aO ?_ ?_
  all_goals
   refine cS (c1) ?_ ?_
   ·simp only[tt,seval,PB]
    decide
   simp only[tt,seval,PB]
  all_goals repeat' first|refine gE ?_ ?_|refine cK ?_ ?_|refine cL ?_ ?_
  all_goals
   refine⟨by kernel_rfl,⟨by simp only[maxLen];omega,by omega⟩,?_⟩
  all_goals exact⟨rfl,rfl,rfl,rfl⟩
 case h2=>
  intro f' hj0 hj1
  simp only[tt,seval,hj0]
  refine cS (cSg) ?_ ?_<;>simp only[tt,seval,PB]
  refine dDrawn.intro [22] (.take 0 (.take 1 (.take 2 (.take 4 (.br 3 (.take 6 (.br 5 (.br 7 (.br 8 (.take 9 (.take 11 (.take 12 (.br 10 (.br 13 .done .nobr) (.br 13 (.br 10 .done .nobr) .nobr))))) .nobr) .nobr) (.br 7 (.br 5 (.br 8 (.take 9 (.take 11 (.take 12 (.br 10 (.br 13 .done .nobr) (.br 13 (.br 10 .done .nobr) .nobr))))) .nobr) .nobr) .nobr))) (.br 5 (.take 3 (.take 6 (.br 7 (.br 8 (.take 9 (.take 11 (.take 12 (.br 10 (.br 13 .done .nobr) (.br 13 (.br 10 .done .nobr) .nobr))))) .nobr) .nobr))) (.br 7 (.br 3 (.take 6 (.br 5 (.br 8 (.take 9 (.take 11 (.take 12 (.br 10 (.br 13 .done .nobr) (.br 13 (.br 10 .done .nobr) .nobr))))) .nobr) .nobr)) (.br 5 (.take 3 (.take 6 (.br 8 (.take 9 (.take 11 (.take 12 (.br 10 (.br 13 .done .nobr) (.br 13 (.br 10 .done .nobr) .nobr))))) .nobr))) .nobr)) .nobr))))))) (by kernel_rfl) ?_
  simp only[tt,seval]
  all_goals try simp only[tt,seval,hj0,hj1]
  all_goals repeat' first|with_reducible refine aa ?_ ?_|intro _
  all_goals
   refine CallQ.intro (c2) ?_ ?_ ?_
   ·decide
   ·simp only[tt,seval,PB]
    decide
   rintro r os ⟨⟨Gk,Gs,rfl⟩,rfl⟩ hos
   simp only[tt,seval,PB,aw]
  all_goals first|refine fun _=>?_|skip
  all_goals
   refine⟨by kernel_rfl,⟨by simp only[maxLen];omega,by omega⟩,by omega,by omega,?_⟩
   simp only[hT1,hT2,hT4,Nat.le_refl,true_and]
   all_goals repeat' first|with_reducible refine aa ?_ ?_|exact Nat.le_refl _|(show _<=_;omega)
   all_goals refine⟨_,[PB L t,[.v (.int .i64 3),.v (.bool false),.v (.slice none 0 0),.v (.slice none 0 0),.v (.slice none 0 0),.v (.slice none 0 0),.v (.int .i64 0),.v (.string tab),.v (.slice none 0 0),.ow 9 ((cs++[tx])).length (((cs++[tx])).flatMap srow) (some []),.ow 52 ((es++[(Expr.mk k1 p1 n1 v1 q1 m1 ks1 ss1)])).length (((es++[(Expr.mk k1 p1 n1 v1 q1 m1 ks1 ss1)])).flatMap Expr.row) (some (Cf Fs (Gk++Gs))),.v (.slice none 0 0)]],⟨rfl,_,rfl⟩,ai ?_⟩
   all_goals simp only[tt,seval,PB,srow,PB,ae,List.flatMap_append,aB]
   all_goals exact aG fun x=>by rw[pU];simp only[List.flatten_append,List.count_append];omega
def GH (L:List Tok) (fn:FuncId) (m:PM Stmt):Prop:=∀s e s',m s=some (e,s')->s.a<=L.length->Cl Tryz.prog fn [.c (.p 9000 0)] [PB L s] fun r os=>(∃Fi Ff Fw Fo Fr Fc Fe Fx,r = .ag (aw (e).row [Fi,Ff,Fw,Fo,Fr,Fc,Fe,Fx]))/\os=[PB L s']
set_option maxHeartbeats 16000000 in
theorem wD (L:List Tok) (hL:L.length<=1048576) (hT:∀t∈L,t.text.size<=1048576) {f:Nat->PM Expr} {q:PM Query} (ok:∀lv,OkM (L:=L) (f lv)) (okq:OkM (L:=L) q) (hf1:gF L 171 (f 1)) (hq:E6 L 101 q):GH L 53 (gA L f q):=by
 intro s x s' h ha
 unfold gA at h
 refine ah ab true Tryz.func53 rfl (by kernel_rfl) ?_
 simp only[Tryz.f53,tt,seval]
 refine cS (qr L hL hT s 1 ⟨#[83,69,76,69,67,84]⟩ (by kernel_rfl) ha) ?_ ?_<;>simp only[tt,seval,PB]
 cases c1:ap L s 1 with
 |true=>
  rw[if_pos c1] at h
  split at h
  ·cases h
  rename_i y s1 hy
  injection h with h;injection h with h1 h2;subst h1 h2
  have cq:=hq _ _ _ hy ha
  obtain⟨d1,i1,f1,w1,o1,l1⟩:=y
  rw[ay] at cq
  simp only[tt,seval]
  refine CallQ.intro (cq) ?_ ?_ ?_
  ·decide
  ·simp only[tt,seval,PB]
  rintro r os ⟨⟨Fi,Ff,Fw,Fo,rfl⟩,rfl⟩ hos
  simp only[tt,seval,PB,aw]
  refine⟨.ag (aw (Stmt.mk 1 (Query.mk d1 i1 f1 w1 o1 l1) z0 [] [] [] []).row [Fi,Ff,Fw,Fo,[],[],[],[]]),[PB L (s1)],⟨⟨Fi,Ff,Fw,Fo,[],[],[],[],by first|rfl|simp only[Stmt.row_mk,ay,eg,bY,ERow.row_mk,srow,rW,aw,Val.row,lc]⟩,rfl⟩,ai ?_⟩
  simp only[tt,seval,Stmt.row_mk,ay,dm,PB,z0,ay,aw,z0]
  first|done|((try refine⟨by omega,?_⟩);exact aG fun x=>by (try simp only[List.flatten_append,List.count_append]);omega)
 |false=>
 rw[if_neg (by rw[c1];simp)] at h
 simp only[tt,seval]
 refine cS (bh L hL hT s 23 ⟨#[73,78,83,69,82,84]⟩ (by kernel_rfl) ha) ?_ ?_<;>simp only[tt,seval,PB]
 cases c23:ap L s 23 with
 |true=>
  rw[if_pos c23] at h
  have hav:=aR (L:=L) (ao c23)
  unfold fW at h
  simp only at h
  simp only[tt,seval,gC]
  refine cS (dq L hL hT (adv s) 24 ⟨#[73,78,84,79]⟩ (by kernel_rfl) hav) ?_ ?_<;>simp only[tt,seval,PB]
  have o1:Ok L (adv s) (must (ap L (adv s) 24) (adv s)):=Ok.must fun h=>ao h
  have ha1:=o1.2.1 hav
  generalize must (ap L (adv s) 24) (adv s)=u1 at *
  refine cS (cE L hL hT u1 2 ha1) ?_ ?_<;>simp only[tt,seval,PB]
  have ha2:=(Ok.mText (L:=L) 2 u1).2.1 ha1
  generalize (mText L 2 u1).2=u2 at *
  generalize (mText L 2 u1).1=tab at *
  refine cS (dq L hL hT u2 25 ⟨#[86,65,76,85,69,83]⟩ (by kernel_rfl) ha2) ?_ ?_<;>simp only[tt,seval,PB]
  have o3:Ok L u2 (must (ap L u2 25) u2):=Ok.must fun h=>ao h
  have ha3:=o3.2.1 ha2
  generalize must (ap L u2 25) u2=u3 at *
  split at h
  ·cases h
  rename_i rs s3 hrs
  injection h with h;injection h with h1 h2;subst h1 h2
  unfold lN at hrs
  split at hrs
  ·cases hrs
  rename_i r1 v1 hr1
  obtain⟨l1⟩:=r1
  have c1:=rV L hL hT ok hf1 _ _ _ hr1 ha3
  have hav1:=(OkM.row ok _ _ _ hr1).2.1 ha3
  refine CallQ.intro (c1) ?_ ?_ ?_
  ·decide
  ·simp only[tt,seval,PB]
  rintro r os ⟨⟨F1,rfl⟩,rfl⟩ hos
  simp only[tt,seval,PB]
  refine fun G1=>?_
  refine dLoop.gh [.ren 28 37] ⟨by decide,by decide,?_⟩
  refine dLoop0.intro (fun f' Lo p=>∃(m:List ERow) (v:PS) (n:Nat) (Fm Pl:List (List Nat)),dt L (mb L f) n m v=some (rs,s3)/\v.a<=L.length/\m.length<=v.a+1/\Sb Fm.flatten Pl.flatten/\Lo=[(9000,.str (PB L v)),(3,.str [.v (.int .i64 2),.v (.bool false),.v (.slice none 0 0),.v (.slice none 0 0),.v (.slice none 0 0),.v (.slice none 0 0),.v (.int .i64 0),.v (.string tab),.s 37 (m).length,.v (.slice none 0 0),.v (.slice none 0 0),.v (.slice none 0 0)]),(37,.arr 28 (m).length ((m).flatMap ERow.row) (some (Fm))),(2,.str [.v (.int .i64 0),.v (.bool false),.v (.slice none 0 0),.v (.slice none 0 0),.v (.slice none 0 0),.v (.slice none 0 0),.v (.int .i64 0),.v (.string ByteArray.empty),.v (.slice none 0 0),.v (.slice none 0 0),.v (.slice none 0 0),.v (.slice none 0 0)])]/\p=some Pl) (fun _ Lo _=>L.length-w5 Lo) [(9000,.str (PB L v1)),(3,.str [.v (.int .i64 2),.v (.bool false),.v (.slice none 0 0),.v (.slice none 0 0),.v (.slice none 0 0),.v (.slice none 0 0),.v (.int .i64 0),.v (.string tab),.s 37 ([ERow.mk l1]).length,.v (.slice none 0 0),.v (.slice none 0 0),.v (.slice none 0 0)]),(37,.arr 28 ([ERow.mk l1]).length (([ERow.mk l1]).flatMap ERow.row) (some (G1::F1))),(2,.str [.v (.int .i64 0),.v (.bool false),.v (.slice none 0 0),.v (.slice none 0 0),.v (.slice none 0 0),.v (.slice none 0 0),.v (.int .i64 0),.v (.string ByteArray.empty),.v (.slice none 0 0),.v (.slice none 0 0),.v (.slice none 0 0),.v (.slice none 0 0)])] (some (G1::F1)) ⟨by simp only[ERow.row_mk,dm,PB,List.flatMap_nil,List.flatMap_cons,List.append_nil,List.length_nil,List.length_cons];exact ac rfl (ac rfl (ac rfl (ac rfl (al _)))),PoSub.refl _,?_⟩ ?_
  ·simp only[tt,seval]
   exact⟨[ERow.mk l1],v1,L.length+1,G1::F1,G1::F1,hrs,hav1,by simp,Sb.refl _,rfl,rfl⟩
  ·rintro g' Lo p ⟨m,v,n,Fm,Pl,hm,hv,hml,hsb,rfl,rfl⟩
   simp only[tt,seval]
   refine cS (cD L hL hT v 44 hv) ?_ ?_<;>simp only[tt,seval,PB]
   cases n with
   |zero=>cases hm
   |succ n=>
   rw[dt] at hm
   cases c44:aN L v 44 with
   |true=>
    rw[if_pos c44] at hm
    split at hm
    ·cases hm
    rename_i z w hz
    have hlt:=(ax c44).2
    have hav:=aR (L:=L) (ax c44)
    have o3:=OkM.row ok _ _ _ hz
    have o3a:v.a+1<=w.a:=o3.1
    have hw:=o3.2.1 hav
    obtain⟨l2⟩:=z
    have c2:=rV L hL hT ok hf1 _ _ _ hz hav
    simp only[tt,seval,gC]
    refine dDrawn.intro [35] (.take 0 (.take 2 (.br 1 (.br 3 (.br 4 (.br 5 (.take 6 (.br 7 .done .nobr)) .nobr) .nobr) .nobr) (.br 3 (.take 1 (.br 4 (.br 5 (.take 6 (.br 7 .done .nobr)) .nobr) .nobr)) .nobr)))) (by kernel_rfl) ?_
    simp only[tt,seval]
    all_goals repeat' first|refine cj ?_ ?_|refine aO ?_ ?_
    all_goals
     refine CallQ.intro (c2) ?_ ?_ ?_
     ·decide
     ·simp only[tt,seval,PB]
      decide
     rintro r os ⟨⟨F2,rfl⟩,rfl⟩ hos
     simp (config:={ maxSteps:=10000000 }) only[tt,seval,PB]
    all_goals repeat' first|refine gE ?_ ?_|refine cK ?_ ?_|refine cL ?_ ?_
    all_goals
     refine fun G2=>?_
     refine⟨by kernel_rfl,⟨by simp only[maxLen];omega,by omega⟩,?_⟩
    all_goals
     refine⟨[(9000,.str (PB L w)),(3,.str [.v (.int .i64 2),.v (.bool false),.v (.slice none 0 0),.v (.slice none 0 0),.v (.slice none 0 0),.v (.slice none 0 0),.v (.int .i64 0),.v (.string tab),.s 37 ((m++[ERow.mk l2])).length,.v (.slice none 0 0),.v (.slice none 0 0),.v (.slice none 0 0)]),(37,.arr 28 ((m++[ERow.mk l2])).length (((m++[ERow.mk l2])).flatMap ERow.row) (some (Fm++(G2::F2)))),(2,.str [.v (.int .i64 0),.v (.bool false),.v (.slice none 0 0),.v (.slice none 0 0),.v (.slice none 0 0),.v (.slice none 0 0),.v (.int .i64 0),.v (.string ByteArray.empty),.v (.slice none 0 0),.v (.slice none 0 0),.v (.slice none 0 0),.v (.slice none 0 0)])],some (G2::(Pl++F2)),by simp only[ERow.row_mk,dm,PB,List.flatMap_nil,List.flatMap_cons,List.append_nil,List.length_nil,List.length_cons,List.flatMap_append,aB];exact ac rfl (ac rfl (ac rfl (ac rfl (al _)))),PoSub.refl _,⟨m++[ERow.mk l2],w,n,_,_,hm,hw,by simp;omega,fun x=>by have:=hsb x;simp only[List.flatten_append,List.flatten_cons,List.count_append] at this ⊢;omega,rfl,rfl⟩,?_⟩
     show L.length-((w.a:Int)).toNat<L.length-((v.a:Int)).toNat
     omega
   |false=>
    rw[if_neg (by rw[c44];simp)] at hm
    injection hm with hm;injection hm with e1 e2;subst e1 e2
    simp only[tt,seval,fY]
    refine fun G=>?_
    refine⟨.ag (aw (Stmt.mk 2 bY tab m [] [] []).row [[],[],[],[],G::Fm,[],[],[]]),[PB L (v)],⟨⟨[],[],[],[],G::Fm,[],[],[],by first|rfl|simp only[Stmt.row_mk,ay,eg,bY,ERow.row_mk,srow,rW,aw,Val.row,lc]⟩,rfl⟩,ai ?_⟩
    simp only[tt,seval,Stmt.row_mk,ay,bY,PB,ay,aw]
    exact aG fun x=>by have:=hsb x;simp only[List.count_append] at this ⊢;omega
 |false=>
 rw[if_neg (by rw[c23];simp)] at h
 simp only[tt,seval,fY]
 refine cS (bh L hL hT s 26 ⟨#[85,80,68,65,84,69]⟩ (by kernel_rfl) ha) ?_ ?_<;>simp only[tt,seval,PB]
 cases c26:ap L s 26 with
 |true=>
  rw[if_pos c26] at h
  have hav:=aR (L:=L) (ao c26)
  unfold fX at h
  simp only at h
  simp only[tt,seval,gC]
  refine cS (cE L hL hT (adv s) 2 hav) ?_ ?_<;>simp only[tt,seval,PB]
  have ha1:=(Ok.mText (L:=L) 2 (adv s)).2.1 hav
  generalize (mText L 2 (adv s)).2=u0 at *
  generalize (mText L 2 (adv s)).1=tab at *
  refine cS (dq L hL hT u0 27 ⟨#[83,69,84]⟩ (by kernel_rfl) ha1) ?_ ?_<;>simp only[tt,seval,PB]
  have o1:Ok L u0 (must (ap L u0 27) u0):=Ok.must fun h=>ao h
  have ha2:=o1.2.1 ha1
  generalize must (ap L u0 27) u0=u1 at *
  split at h
  ·cases h
  rename_i l s2 hl
  split at h
  ·cases h
  rename_i w s3 hwh
  injection h with h;injection h with h1 h2;subst h1 h2
  unfold mL at hl
  split at hl
  ·cases hl
  rename_i x1 v1 hs1
  obtain⟨xt,xe⟩:=x1
  have cs:=rX L hL hT ok hf1 tab [] [] (by simp) (by simp) [] _ _ _ hs1 ha2
  simp only[List.flatMap_nil,List.length_nil,List.nil_append] at cs
  refine v7 ([]) (cs) ?_ ?_ ?_ ?_
  ·decide
  ·simp only[tt,seval,PB]
  ·exact fun x=>by simp only[List.flatten_nil,List.append_nil,List.count_nil];omega
  rintro r os ⟨rfl,F1,rfl⟩ hos
  simp only[tt,seval,PB]
  have hav1:=(OkM.set1 ok _ _ _ hs1).2.1 ha2
  refine dLoop.gh [.ren 20090049 20090053,.ren 20100049 20100053] ⟨by decide,by decide,?_⟩
  simp only[tt,seval]
  refine⟨by decide,by decide,?_⟩
  simp only[tt,seval]
  refine dLoop0.intro (fun f' Lo p=>∃(m:List (ByteArray×Expr)) (ccs:List ByteArray) (ces:List Expr) (v:PS) (n:Nat) (Fm:List (List Nat)),dt L (lE L f) n m v=some (l,s2)/\ccs=m.map (·.1)/\ces=m.map (·.2)/\v.a<=L.length/\m.length<=v.a+1/\Lo=[(9000,.str (PB L v)),(3,.str [.v (.int .i64 3),.v (.bool false),.v (.slice none 0 0),.v (.slice none 0 0),.v (.slice none 0 0),.v (.slice none 0 0),.v (.int .i64 0),.v (.string tab),.v (.slice none 0 0),.s 20090053 (ccs).length,.s 20100053 (ces).length,.v (.slice none 0 0)]),(20090053,.arr 9 (ccs).length ((ccs).flatMap srow) (some [])),(20100053,.arr 52 (ces).length ((ces).flatMap Expr.row) (some (Fm))),(2,.str [.v (.int .i64 0),.v (.bool false),.v (.slice none 0 0),.v (.slice none 0 0),.v (.slice none 0 0),.v (.slice none 0 0),.v (.int .i64 0),.v (.string ByteArray.empty),.v (.slice none 0 0),.v (.slice none 0 0),.v (.slice none 0 0),.v (.slice none 0 0)])]/\p=some Fm) (fun _ Lo _=>L.length-w5 Lo) [(9000,.str (PB L v1)),(3,.str [.v (.int .i64 3),.v (.bool false),.v (.slice none 0 0),.v (.slice none 0 0),.v (.slice none 0 0),.v (.slice none 0 0),.v (.int .i64 0),.v (.string tab),.v (.slice none 0 0),.s 20090053 ([xt]).length,.s 20100053 ([xe]).length,.v (.slice none 0 0)]),(20090053,.arr 9 ([xt]).length (([xt]).flatMap srow) (some [])),(20100053,.arr 52 ([xe]).length (([xe]).flatMap Expr.row) (some (F1))),(2,.str [.v (.int .i64 0),.v (.bool false),.v (.slice none 0 0),.v (.slice none 0 0),.v (.slice none 0 0),.v (.slice none 0 0),.v (.int .i64 0),.v (.string ByteArray.empty),.v (.slice none 0 0),.v (.slice none 0 0),.v (.slice none 0 0),.v (.slice none 0 0)])] (some F1) ⟨by simp only[srow,dm,PB,List.flatMap_nil,List.flatMap_cons,List.append_nil,List.length_nil,List.length_cons];exact ac rfl (ac rfl (ac rfl (ac rfl (ac rfl (al _))))),PoSub.refl _,?_⟩ ?_
  ·simp only[tt,seval]
   exact⟨[(xt,xe)],[xt],[xe],v1,L.length+1,F1,hl,rfl,rfl,hav1,by simp,by simp,rfl⟩
  ·rintro g' Lo p ⟨m,ccs,ces,v,n,Fm,hm,hcc,hce,hv,hml,rfl,rfl⟩
   have lcc:ccs.length=m.length:=by rw[hcc,List.length_map]
   have lce:ces.length=m.length:=by rw[hce,List.length_map]
   simp only[tt,seval]
   refine cS (cD L hL hT v 44 hv) ?_ ?_<;>simp only[tt,seval,PB]
   cases n with
   |zero=>cases hm
   |succ n=>
   rw[dt] at hm
   cases c44:aN L v 44 with
   |true=>
    rw[if_pos c44] at hm
    split at hm
    ·cases hm
    rename_i z w' hz
    have hlt:=(ax c44).2
    have hav:=aR (L:=L) (ax c44)
    have o3:=OkM.set1 ok _ _ _ hz
    have o3a:v.a+1<=w'.a:=o3.1
    have hw:=o3.2.1 hav
    obtain⟨yt,ye⟩:=z
    have c2:=rX L hL hT ok hf1 tab ccs ces (by omega) (by omega) Fm _ _ _ hz hav
    simp only[tt,seval,gC]
    refine v7 ([]) (c2) ?_ ?_ ?_ ?_
    ·decide
    ·simp only[tt,seval,PB]
    ·exact fun x=>by simp only[List.flatten_nil,List.append_nil];omega
    rintro r os ⟨rfl,F2,rfl⟩ hos
    simp only[tt,seval,PB]
    refine⟨[(9000,.str (PB L w')),(3,.str [.v (.int .i64 3),.v (.bool false),.v (.slice none 0 0),.v (.slice none 0 0),.v (.slice none 0 0),.v (.slice none 0 0),.v (.int .i64 0),.v (.string tab),.v (.slice none 0 0),.s 20090053 ((ccs++[yt])).length,.s 20100053 ((ces++[ye])).length,.v (.slice none 0 0)]),(20090053,.arr 9 ((ccs++[yt])).length (((ccs++[yt])).flatMap srow) (some [])),(20100053,.arr 52 ((ces++[ye])).length (((ces++[ye])).flatMap Expr.row) (some (F2))),(2,.str [.v (.int .i64 0),.v (.bool false),.v (.slice none 0 0),.v (.slice none 0 0),.v (.slice none 0 0),.v (.slice none 0 0),.v (.int .i64 0),.v (.string ByteArray.empty),.v (.slice none 0 0),.v (.slice none 0 0),.v (.slice none 0 0),.v (.slice none 0 0)])],some F2,by simp only[srow,dm,PB,List.flatMap_nil,List.flatMap_cons,List.append_nil,List.length_nil,List.length_cons,List.flatMap_append,aB];exact ac rfl (ac rfl (ac rfl (ac rfl (ac rfl (al _))))),PoSub.refl _,⟨m++[(yt,ye)],ccs++[yt],ces++[ye],w',n,F2,hm,by rw[hcc];simp,by rw[hce];simp,hw,by simp;omega,rfl,rfl⟩,?_⟩
    show L.length-((w'.a:Int)).toNat<L.length-((v.a:Int)).toNat
    omega
   |false=>
    rw[if_neg (by rw[c44];simp)] at hm
    injection hm with hm;injection hm with e1 e2;subst e1 e2
    simp only[tt,seval,fY]
    have cw:=kI L hL hT hf1 _ _ _ hwh hv
    rw[<-hcc,<-hce]
    refine CallQ.intro (cw) ?_ ?_ ?_
    ·decide
    ·simp only[tt,seval,PB]
    rintro r os ⟨⟨Fw,rfl⟩,rfl⟩ hos
    simp only[tt,seval,PB]
    refine fun G0 G1 G2=>?_
    refine⟨.ag (aw (Stmt.mk 3 bY tab [] ccs ces w).row [[],[],[],[],[],G0::[],G1::Fm,G2::Fw]),[PB L (s3)],⟨⟨[],[],[],[],[],G0::[],G1::Fm,G2::Fw,by first|rfl|simp only[Stmt.row_mk,ay,eg,bY,ERow.row_mk,srow,rW,aw,Val.row,lc]⟩,rfl⟩,ai ?_⟩
    simp only[tt,seval,Stmt.row_mk,ay,bY,PB,ay,aw]
    first|done|((try refine⟨by omega,?_⟩);exact aG fun x=>by (try simp only[List.flatten_append,List.flatten_cons,List.count_append]);omega)
 |false=>
 rw[if_neg (by rw[c26];simp)] at h
 simp only[tt,seval,fY]
 refine cS (bh L hL hT s 28 ⟨#[68,69,76,69,84,69]⟩ (by kernel_rfl) ha) ?_ ?_<;>simp only[tt,seval,PB]
 cases c28:ap L s 28 with
 |true=>
  rw[if_pos c28] at h
  have hav:=aR (L:=L) (ao c28)
  unfold gI at h
  simp only at h
  simp only[tt,seval,gC]
  refine cS (dq L hL hT (adv s) 3 ⟨#[70,82,79,77]⟩ (by kernel_rfl) hav) ?_ ?_<;>simp only[tt,seval,PB]
  have o1:Ok L (adv s) (must (ap L (adv s) 3) (adv s)):=Ok.must fun h=>ao h
  have ha1:=o1.2.1 hav
  generalize must (ap L (adv s) 3) (adv s)=u1 at *
  refine cS (cE L hL hT u1 2 ha1) ?_ ?_<;>simp only[tt,seval,PB]
  have ha2:=(Ok.mText (L:=L) 2 u1).2.1 ha1
  generalize (mText L 2 u1).2=u2 at *
  generalize (mText L 2 u1).1=tab at *
  split at h
  ·cases h
  rename_i w s2 hw
  injection h with h;injection h with h1 h2;subst h1 h2
  have cw:=kI L hL hT hf1 _ _ _ hw ha2
  refine CallQ.intro (cw) ?_ ?_ ?_
  ·decide
  ·simp only[tt,seval,PB]
  rintro r os ⟨⟨F,rfl⟩,rfl⟩ hos
  simp only[tt,seval,PB]
  refine fun G=>?_
  refine⟨.ag (aw (Stmt.mk 4 bY tab [] [] [] w).row [[],[],[],[],[],[],[],G::F]),[PB L (s2)],⟨⟨[],[],[],[],[],[],[],G::F,by first|rfl|simp only[Stmt.row_mk,ay,eg,bY,ERow.row_mk,srow,rW,aw,Val.row,lc]⟩,rfl⟩,ai ?_⟩
  simp only[tt,seval,Stmt.row_mk,ay,bY,PB,ay,aw]
  first|done|((try refine⟨by omega,?_⟩);exact aG fun x=>by (try simp only[List.count_append]);omega)
 |false=>
  rw[if_neg (by rw[c28];simp)] at h
  injection h with h;injection h with h1 h2;subst h1 h2
  simp only[tt,seval,fY]
  refine⟨.ag (aw (eg).row [[],[],[],[],[],[],[],[]]),[PB L (fl s)],⟨⟨[],[],[],[],[],[],[],[],by first|rfl|simp only[Stmt.row_mk,ay,eg,bY,ERow.row_mk,srow,rW,aw,Val.row,lc]⟩,rfl⟩,ai ?_⟩
  simp only[tt,seval,Stmt.row_mk,ay,eg,bY,dm,PB,z0,ay,aw,z0,fl]
  first|done|((try refine⟨by omega,?_⟩);exact aG fun x=>by (try simp only[List.count_nil]);omega)
theorem D1 (L:List Tok) (hL:L.length<=1048576) (hT:∀t∈L,t.text.size<=1048576):GH L 53 (gA L (hD L) (iX L)):=wD L hL hT (fun lv=>eh lv) je (DA L hL hT) (Bx L hL hT)
set_option maxHeartbeats 4000000 in
theorem iP (L:List Tok) (hL:L.length<=1048576) (hT:∀t∈L,t.text.size<=1048576):Cl Tryz.prog 13 [.c (.sl L.length (L.flatMap Tok.row) none)] [] fun r _=>∃Fi Ff Fw Fo Fr Fc Fe Fx,r = .tu [(aw (eG L).1.row [Fi,Ff,Fw,Fo,Fr,Fc,Fe,Fx],false),([.v (.int .i64 (eG L).2)],true)]:=by
 obtain⟨x,s1,hx⟩:=pK (f:=hD L) (fun lv=>eh (L:=L) lv) (fun s=>jc 1 (by omega) (by omega) s) (fun s=>jd s) s0
 have ha:=(OkM.stmt (fun lv=>eh (L:=L) lv) je _ _ _ hx).2.1 (Nat.zero_le _)
 have c1:=D1 L hL hT _ _ _ hx (Nat.zero_le _)
 have ht:eG L=ff L eg (some (x,s1)):=by unfold eG;rw[hx]
 rw[ht]
 obtain⟨kz,⟨dz,iz,fz,wz,oz,lz⟩,tz,rz,cz,sz,hz⟩:=x
 simp only[Stmt.row_mk,ay,lc] at c1
 refine ah ab true Tryz.func13 rfl (by kernel_rfl) ?_
 simp only[Tryz.f13,tt,seval]
 refine CallQ.intro (c1) ?_ ?_ ?_
 ·decide
 ·simp only[tt,seval,PB,s0]
 rintro r os ⟨⟨Fi,Ff,Fw,Fo,Fr,Fc,Fe,Fx,rfl⟩,rfl⟩ hos
 simp only[tt,seval,PB,s0,aw]
 refine cS (Bq L hL hT s1 ha) ?_ ?_<;>simp only[tt,seval,PB]
 refine aa (fun hb=>?_) (fun hb=>?_)
 ·have e:ff L eg (some ((Stmt.mk kz (Query.mk dz iz fz wz oz lz) tz rz cz sz hz),s1))=(eg,fM L s1):=if_pos hb
  rw[e]
  refine⟨.tu [(aw eg.row [[],[],[],[],[],[],[],[]],false),([.v (.int .i64 (fM L s1))],true)],[],⟨[],[],[],[],[],[],[],[],rfl⟩,ai ?_⟩
  simp only[tt,seval,Stmt.row_mk,ay,eg,bY,dm,z0,ay,aw]
  first|done|((try refine⟨by omega,?_⟩);exact aG fun x=>by (try simp only[List.flatten_append,List.count_append,List.count_nil]);omega)
 ·have e:ff L eg (some ((Stmt.mk kz (Query.mk dz iz fz wz oz lz) tz rz cz sz hz),s1))=((Stmt.mk kz (Query.mk dz iz fz wz oz lz) tz rz cz sz hz),-1):=if_neg (by omega)
  rw[e]
  refine⟨.tu [(aw (Stmt.mk kz (Query.mk dz iz fz wz oz lz) tz rz cz sz hz).row [Fi,Ff,Fw,Fo,Fr,Fc,Fe,Fx],false),([.v (.int .i64 (-1))],true)],[],⟨Fi,Ff,Fw,Fo,Fr,Fc,Fe,Fx,rfl⟩,ai ?_⟩
  simp only[tt,seval,Stmt.row_mk,ay,ay,aw]
  first|done|((try refine⟨by omega,?_⟩);exact aG fun x=>by (try simp only[List.flatten_append,List.count_append]);omega)
end Go.Proofs.YtbodcedhmccenaaGreatDoor
