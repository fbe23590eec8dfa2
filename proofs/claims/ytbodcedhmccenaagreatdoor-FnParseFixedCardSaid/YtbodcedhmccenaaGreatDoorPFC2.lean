/-
  The reference's parser, second half.
  Conditions: none.
-/
import Derived.Test.YtbodcedhmccenaaGreatDoorPFC1
set_option linter.unusedVariables false
set_option linter.unusedSimpArgs false
set_option linter.unusedSectionVars false
set_option maxRecDepth 8000
namespace Go.Proofs.YtbodcedhmccenaaGreatDoor
open Go Go.Dv
open Go.Vc (D dg dh cX bk)
theorem lA (L:List Tok) (hL:L.length<=1048576) (hT:∀t∈L,t.text.size<=1048576) (s:PS) (ha:s.a<=L.length):Cl Tryz.prog 231 [.c (.p 9000 0)] [PB L s] fun r os=>r = .ag (ar (sourceM L s).1.row)/\os=[PB L (sourceM L s).2]:=by
 refine ai ac false Tryz.func231 rfl ae ?_
 simp only[Tryz.f231,tt,seval]
 refine cS (eU L hL hT s 2 aa ha) ?_ ?_<;>simp only[tt,seval,PB]
 have ha1:=(Ok.mText (L:=L) 2 s).2.1 ha
 have he:sourceM L s=(.mk (mText L 2 s).1 (asM L (mText L 2 s).2).1 [],(asM L (mText L 2 s).2).2):=rfl
 rw[he]
 generalize (mText L 2 s).1=x at *
 generalize (mText L 2 s).2=u at *
 refine cS (mm L hL hT u ha1) ?_ ?_<;>simp only[tt,seval,PB]
 refine⟨.ag (ar (Source.mk x (asM L u).1 []).row),[PB L (asM L u).2],⟨rfl,rfl⟩,am ?_⟩
 simp only[tt,seval,PB,Source.row_mk]
def K8 (L:List Tok) (fn:FuncId) (m:PM (List Expr)):Prop:=∀s x s',m s=some (x,s')->s.a<=L.length->Cl Tryz.prog fn [.c (.p 9000 0)] [PB L s] fun r os=>r = .c (.sl x.length (x.flatMap Expr.row) none)/\os=[PB L s']
theorem si (L:List Tok) (hL:L.length<=1048576) (hT:∀t∈L,t.text.size<=1048576) {f:Nat->PM Expr} (hf1:pF L 172 [vi 1] (f 1)):K8 L 128 (dL L f):=by
 intro s x s' h ha
 unfold dL at h
 refine ai ac false Tryz.func128 rfl ae ?_
 simp only[Tryz.f128,tt,seval]
 refine cS (bx L hL hT s 6 aa aa ha) ?_ ?_<;>simp only[tt,seval,PB]
 cases c6:aw L s 6 with
 |true=>
  rw[if_pos c6] at h
  split at h
  ·cases h
  rename_i e s1 he
  injection h with h;injection h with h1 h2;subst h1 h2
  simp only[tt,seval,jq]
  obtain⟨k1,p1,n1,v1,q1,m1,ks1,ss1⟩:=e
  have c1:=hf1 _ _ _ he (bo (aA c6))
  rw[al] at c1
  refine cS (c1) ?_ ?_<;>simp only[tt,seval,PB]
  refine⟨.c (.sl [(Expr.mk k1 p1 n1 v1 q1 m1 ks1 ss1)].length ([(Expr.mk k1 p1 n1 v1 q1 m1 ks1 ss1)].flatMap Expr.row) none),[PB L s1],⟨rfl,rfl⟩,am ?_⟩
  simp only[tt,seval,PB,al]
 |false=>
  rw[if_neg (by rw[c6];simp)] at h
  injection h with h;injection h with h1 h2;subst h1 h2
  simp only[tt,seval,jb]
  refine⟨.c (.sl ([]:List Expr).length (([]:List Expr).flatMap Expr.row) none),[PB L s],⟨rfl,rfl⟩,am ?_⟩
  simp only[tt,seval,PB]
theorem EU {L:List Tok} {s:PS} (h:aw L s 9=true):aw L s 10=false:=by
 unfold aw jp at h ⊢
 cases ht:gK L s 0 with
 |none=>rfl
 |some t=>
  rw[ht] at h
  simp only[Bool.and_eq_true,decide_eq_true_eq] at h
  simp only[h.1,h.2]
  decide +kernel
theorem nO (L:List Tok) (hL:L.length<=1048576) (hT:∀t∈L,t.text.size<=1048576) {f:Nat->PM Expr} (ok:∀lv,OkM (L:=L) (f lv)) (hf1:pF L 172 [vi 1] (f 1)) (s:PS) (x:SortKey) (s':PS) (h:dV L f s=some (x,s')) (ha:s.a<=L.length):Cl Tryz.prog 232 [.c (.p 9000 0)] [PB L s] fun r os=>r = .ag (ar x.row)/\os=[PB L s']:=by
 unfold dV at h
 split at h
 ·cases h
 rename_i e s1 he
 have ha1:=(ok 1 _ _ _ he).2.1 ha
 obtain⟨k1,p1,n1,v1,q1,m1,ks1,ss1⟩:=e
 have c1:=hf1 _ _ _ he ha
 rw[al] at c1
 refine ai ac false Tryz.func232 rfl ae ?_
 simp only[Tryz.f232,tt,seval]
 refine cS (c1) ?_ ?_<;>simp only[tt,seval,PB]
 cases c9:aw L s1 9 with
 |true=>
  have c10:=EU c9
  rw[if_pos c9] at h
  injection h with h;injection h with h1 h2;subst h1 h2
  refine cS (bx L hL hT s1 10 aa aa ha1) ?_ ?_<;>simp only[tt,seval,PB]
  simp only[tt,seval,c10,jb]
  refine cS (bx L hL hT s1 9 aa aa ha1) ?_ ?_<;>simp only[tt,seval,PB]
  simp only[seval,c9,jq]
  refine⟨.ag (ar (SortKey.mk (Expr.mk k1 p1 n1 v1 q1 m1 ks1 ss1) false).row),[PB L (adv s1)],⟨rfl,rfl⟩,am ?_⟩
  simp only[tt,seval,PB,al,SortKey.row_mk]
 |false=>
  rw[if_neg (by rw[c9];simp)] at h
  injection h with h;injection h with h1 h2;subst h1 h2
  refine cS (bx L hL hT s1 10 aa aa ha1) ?_ ?_<;>simp only[tt,seval,PB]
  cases c10:aw L s1 10 with
  |true=>
   simp only[tt,seval,jq]
   refine⟨.ag (ar (SortKey.mk (Expr.mk k1 p1 n1 v1 q1 m1 ks1 ss1) true).row),[PB L (adv s1)],⟨rfl,rfl⟩,am ?_⟩
   simp only[tt,seval,PB,al,SortKey.row_mk]
  |false=>
   simp only[tt,seval,jb]
   refine cS (bx L hL hT s1 9 aa aa ha1) ?_ ?_<;>simp only[tt,seval,PB]
   simp only[seval,c9,jb]
   refine⟨.ag (ar (SortKey.mk (Expr.mk k1 p1 n1 v1 q1 m1 ks1 ss1) false).row),[PB L s1],⟨rfl,rfl⟩,am ?_⟩
   simp only[tt,seval,PB,al,SortKey.row_mk]
theorem jc (L:List Tok) (s:PS):dK L s=(iZ L s 2&&(decide ((pX L s 1).kind=5)&&decide ((pX L s 1).text=⟨#[46]⟩)&&(decide ((pX L s 2).kind=5)&&decide ((pX L s 2).text=⟨#[42]⟩)))):=by
 rw[Cg L s 1 5 _ ah,Cg L s 2 5 _ ah];rfl
set_option maxHeartbeats 2000000 in
theorem nP (L:List Tok) (hL:L.length<=1048576) (hT:∀t∈L,t.text.size<=1048576) {f:Nat->PM Expr} (ok:∀lv,OkM (L:=L) (f lv)) (hf1:pF L 172 [vi 1] (f 1)) (s:PS) (x:Item) (s':PS) (h:dF L f s=some (x,s')) (ha:s.a<=L.length):Cl Tryz.prog 230 [.c (.p 9000 0)] [PB L s] fun r os=>r = .ag (ar x.row)/\os=[PB L s']:=by
 unfold dF at h
 refine ai ac false Tryz.func230 rfl ae ?_
 simp only[Tryz.f230,tt,seval]
 refine cS (gi L hL hT s 1 aa ha) ?_ ?_<;>simp only[tt,seval,PB,Tok.row]
 refine cS (gi L hL hT s 2 aa ha) ?_ ?_<;>simp only[tt,seval,PB,Tok.row]
 refine cS (cE L hL hT s 42 ha) ?_ ?_<;>simp only[tt,seval,PB]
 cases c42:bt L s 42 with
 |true=>
  rw[if_pos c42] at h
  injection h with h;injection h with h1 h2;subst h1 h2
  simp only[tt,seval]
  refine cS (bf L hL hT s true (fun _=>aK c42)) ?_ ?_<;>simp only[tt,seval,PB,xA]
  refine⟨.ag (ar (Item.mk true z0 zExpr z0).row),[PB L (adv s)],⟨rfl,rfl⟩,am ?_⟩
  simp only[tt,seval,fW,PB,zExpr,zVal,z0,al,Item.row_mk]
 |false=>
 rw[if_neg (by rw[c42];simp)] at h
 simp only[tt,seval]
 refine cS (jz L hL hT s 2 aa ha) ?_ ?_<;>simp only[tt,seval,PB]
 refine ab (fun hK=>?_) (fun hK=>?_)
 ·simp only[tt,seval,hK]
  refine ab (fun g0=>?_) (fun g0=>?_)
  ·simp only[tt,seval,g0]
   refine ab (fun g1=>?_) (fun g1=>?_)
   ·simp only[tt,seval,g1]
    refine ab (fun g2=>?_) (fun g2=>?_)
    ·simp only[tt,seval,g2]
     refine ab (fun g3=>?_) (fun g3=>?_)
     ·simp only[tt,seval,g3]
      have hst:dK L s=true:=by rw[jc,hK,g0,g1,g2,g3];rfl
      rw[if_pos hst] at h
      injection h with h;injection h with h1 h2;subst h1 h2
      have l3:=(qL hst).2
      have l1:=gL hK
      have ha1:=bo (L:=L) l1
      refine cS (eU L hL hT s 2 aa ha) ?_ ?_<;>simp only[tt,seval,PB]
      rw[kl hK]
      simp only[seval]
      refine cS (bf L hL hT (adv s) true (fun _=>⟨l1.1,by show s.a+1<L.length;omega⟩)) ?_ ?_<;>simp only[tt,seval,PB,xA]
      refine cS (bf L hL hT (adv (adv s)) true (fun _=>⟨l1.1,by show s.a+1+1<L.length;omega⟩)) ?_ ?_<;>simp only[tt,seval,PB,xA]
      refine⟨.ag (ar (Item.mk true (bv L s) zExpr z0).row),[PB L (adv (adv (adv s)))],⟨rfl,rfl⟩,am ?_⟩
      simp only[tt,seval,fW,PB,zExpr,zVal,z0,al,Item.row_mk]
     ·simp only[tt,seval,g3]
      have hsf:dK L s=false:=by first|(rw[jc,g3];simp only[Bool.false_and,Bool.and_false])|(rw[jc,au g3];simp only[Bool.and_false])
      rw[if_neg (by rw[hsf];simp)] at h
      split at h
      ·cases h
      rename_i e s1 he
      injection h with h;injection h with h1 h2;subst h1 h2
      have ha1:=(ok 1 _ _ _ he).2.1 ha
      obtain⟨k1,p1,n1,v1,q1,m1,ks1,ss1⟩:=e
      have c1:=hf1 _ _ _ he ha
      rw[al] at c1
      refine cS (c1) ?_ ?_<;>simp only[tt,seval,PB]
      apply bH 2
      case h1=>
       refine dDrawn.intro [50] (.take 1 (.br 0 (.br 2 (.take 3 (.br 4 .done .nobr)) .nobr) (.br 2 (.take 0 (.take 3 (.br 4 .done .nobr))) .nobr))) ae ?_
       simp only[tt,seval]
       all_goals repeat' first|refine dO ?_ ?_|refine bz ?_ ?_
       all_goals
        refine cS (mm L hL hT s1 ha1) ?_ ?_
        ·simp only[tt,seval,PB]
         decide
        simp only[tt,seval,PB]
       all_goals exact⟨rfl,rfl,rfl⟩
      case h2=>
       intro f' hj0
       simp only[tt,seval,hj0]
       refine⟨.ag (ar (Item.mk false z0 (Expr.mk k1 p1 n1 v1 q1 m1 ks1 ss1) (asM L s1).1).row),[PB L (asM L s1).2],⟨rfl,rfl⟩,am ?_⟩
       simp only[tt,seval,fW,PB,z0,al,Item.row_mk]
    ·simp only[tt,seval,g2]
     have hsf:dK L s=false:=by first|(rw[jc,g2];simp only[Bool.false_and,Bool.and_false])|(rw[jc,au g2];simp only[Bool.false_and,Bool.and_false])
     rw[if_neg (by rw[hsf];simp)] at h
     split at h
     ·cases h
     rename_i e s1 he
     injection h with h;injection h with h1 h2;subst h1 h2
     have ha1:=(ok 1 _ _ _ he).2.1 ha
     obtain⟨k1,p1,n1,v1,q1,m1,ks1,ss1⟩:=e
     have c1:=hf1 _ _ _ he ha
     rw[al] at c1
     refine cS (c1) ?_ ?_<;>simp only[tt,seval,PB]
     apply bH 2
     case h1=>
      refine dDrawn.intro [50] (.take 1 (.br 0 (.br 2 (.take 3 (.br 4 .done .nobr)) .nobr) (.br 2 (.take 0 (.take 3 (.br 4 .done .nobr))) .nobr))) ae ?_
      simp only[tt,seval]
      all_goals repeat' first|refine dO ?_ ?_|refine bz ?_ ?_
      all_goals
       refine cS (mm L hL hT s1 ha1) ?_ ?_
       ·simp only[tt,seval,PB]
        decide
       simp only[tt,seval,PB]
      all_goals exact⟨rfl,rfl,rfl⟩
     case h2=>
      intro f' hj0
      simp only[tt,seval,hj0]
      refine⟨.ag (ar (Item.mk false z0 (Expr.mk k1 p1 n1 v1 q1 m1 ks1 ss1) (asM L s1).1).row),[PB L (asM L s1).2],⟨rfl,rfl⟩,am ?_⟩
      simp only[tt,seval,fW,PB,z0,al,Item.row_mk]
   ·simp only[tt,seval,g1]
    have hsf:dK L s=false:=by first|(rw[jc,g1];simp only[Bool.false_and,Bool.and_false])|(rw[jc,au g1];simp only[Bool.false_and,Bool.and_false])
    rw[if_neg (by rw[hsf];simp)] at h
    split at h
    ·cases h
    rename_i e s1 he
    injection h with h;injection h with h1 h2;subst h1 h2
    have ha1:=(ok 1 _ _ _ he).2.1 ha
    obtain⟨k1,p1,n1,v1,q1,m1,ks1,ss1⟩:=e
    have c1:=hf1 _ _ _ he ha
    rw[al] at c1
    refine cS (c1) ?_ ?_<;>simp only[tt,seval,PB]
    apply bH 2
    case h1=>
     refine dDrawn.intro [50] (.take 1 (.br 0 (.br 2 (.take 3 (.br 4 .done .nobr)) .nobr) (.br 2 (.take 0 (.take 3 (.br 4 .done .nobr))) .nobr))) ae ?_
     simp only[tt,seval]
     all_goals repeat' first|refine dO ?_ ?_|refine bz ?_ ?_
     all_goals
      refine cS (mm L hL hT s1 ha1) ?_ ?_
      ·simp only[tt,seval,PB]
       decide
      simp only[tt,seval,PB]
     all_goals exact⟨rfl,rfl,rfl⟩
    case h2=>
     intro f' hj0
     simp only[tt,seval,hj0]
     refine⟨.ag (ar (Item.mk false z0 (Expr.mk k1 p1 n1 v1 q1 m1 ks1 ss1) (asM L s1).1).row),[PB L (asM L s1).2],⟨rfl,rfl⟩,am ?_⟩
     simp only[tt,seval,fW,PB,z0,al,Item.row_mk]
  ·simp only[tt,seval,g0]
   have hsf:dK L s=false:=by first|(rw[jc,g0];simp only[Bool.false_and,Bool.and_false])|(rw[jc,au g0];simp only[Bool.false_and,Bool.and_false])
   rw[if_neg (by rw[hsf];simp)] at h
   split at h
   ·cases h
   rename_i e s1 he
   injection h with h;injection h with h1 h2;subst h1 h2
   have ha1:=(ok 1 _ _ _ he).2.1 ha
   obtain⟨k1,p1,n1,v1,q1,m1,ks1,ss1⟩:=e
   have c1:=hf1 _ _ _ he ha
   rw[al] at c1
   refine cS (c1) ?_ ?_<;>simp only[tt,seval,PB]
   apply bH 2
   case h1=>
    refine dDrawn.intro [50] (.take 1 (.br 0 (.br 2 (.take 3 (.br 4 .done .nobr)) .nobr) (.br 2 (.take 0 (.take 3 (.br 4 .done .nobr))) .nobr))) ae ?_
    simp only[tt,seval]
    all_goals repeat' first|refine dO ?_ ?_|refine bz ?_ ?_
    all_goals
     refine cS (mm L hL hT s1 ha1) ?_ ?_
     ·simp only[tt,seval,PB]
      decide
     simp only[tt,seval,PB]
    all_goals exact⟨rfl,rfl,rfl⟩
   case h2=>
    intro f' hj0
    simp only[tt,seval,hj0]
    refine⟨.ag (ar (Item.mk false z0 (Expr.mk k1 p1 n1 v1 q1 m1 ks1 ss1) (asM L s1).1).row),[PB L (asM L s1).2],⟨rfl,rfl⟩,am ?_⟩
    simp only[tt,seval,fW,PB,z0,al,Item.row_mk]
 ·simp only[tt,seval,hK]
  have hsf:dK L s=false:=by rw[jc,hK];rfl
  rw[if_neg (by rw[hsf];simp)] at h
  split at h
  ·cases h
  rename_i e s1 he
  injection h with h;injection h with h1 h2;subst h1 h2
  have ha1:=(ok 1 _ _ _ he).2.1 ha
  obtain⟨k1,p1,n1,v1,q1,m1,ks1,ss1⟩:=e
  have c1:=hf1 _ _ _ he ha
  rw[al] at c1
  refine cS (c1) ?_ ?_<;>simp only[tt,seval,PB]
  apply bH 2
  case h1=>
   refine dDrawn.intro [50] (.take 1 (.br 0 (.br 2 (.take 3 (.br 4 .done .nobr)) .nobr) (.br 2 (.take 0 (.take 3 (.br 4 .done .nobr))) .nobr))) ae ?_
   simp only[tt,seval]
   all_goals repeat' first|refine dO ?_ ?_|refine bz ?_ ?_
   all_goals
    refine cS (mm L hL hT s1 ha1) ?_ ?_
    ·simp only[tt,seval,PB]
     decide
    simp only[tt,seval,PB]
   all_goals exact⟨rfl,rfl,rfl⟩
  case h2=>
   intro f' hj0
   simp only[tt,seval,hj0]
   refine⟨.ag (ar (Item.mk false z0 (Expr.mk k1 p1 n1 v1 q1 m1 ks1 ss1) (asM L s1).1).row),[PB L (asM L s1).2],⟨rfl,rfl⟩,am ?_⟩
   simp only[tt,seval,fW,PB,z0,al,Item.row_mk]
theorem Co (L:List Tok) (hL:L.length<=1048576) (hT:∀t∈L,t.text.size<=1048576) (s:PS) (ha:s.a<=L.length):Cl Tryz.prog 56 [.c (.p 9000 0)] [PB L s] fun r os=>r=vi (kf L s)/\os=[PB L s]:=by
 refine ai ac false Tryz.func56 rfl ae ?_
 simp only[Tryz.f56,tt,seval]
 simp only[tt,seval,PB]
 cases hb:s.b with
 |true=>
  have e:kf L s=s.a:=if_neg (by rw[hb];simp)
  rw[e]
  refine dDrawn.intro [] (j3 [0,2,4,6,8,10,12,14,16,18,20,22,24,26,28,30,32]) ae ?_
  simp only[tt,seval]
  exact⟨_,_,⟨rfl,rfl⟩,am (by simp only[tt,seval])⟩
 |false=>
  refine dDrawn.intro [] (j3 [0,2,4,6,8,10,12,14,16,18,20,22,24,26,28,30,32]) ae ?_
  simp only[tt,seval]
  refine fun _=>ab (fun he=>?_) (fun he=>?_)
  ·have e:kf L s = -1:=if_pos ⟨hb,aa⟩
   rw[e]
   exact⟨_,_,⟨rfl,rfl⟩,am (by simp only[tt,seval])⟩
  ·have e:kf L s=s.a:=if_neg aa
   rw[e]
   exact⟨_,_,⟨rfl,rfl⟩,am (by simp only[tt,seval])⟩
theorem vS {L:List Tok} (hL:L.length<=1048576) (hT:∀t∈L,t.text.size<=1048576) (s:PS) (k:Int):(mText L k s).1.size<=1048576:=by
 unfold mText
 split
 ·exact ki hL hT s
 ·exact Nat.zero_le _
set_option maxHeartbeats 16000000 in
theorem sj (L:List Tok) (hL:L.length<=1048576) (hT:∀t∈L,t.text.size<=1048576) {f:Nat->PM Expr} (ok:∀lv,OkM (L:=L) (f lv)) (hf1:pF L 172 [vi 1] (f 1)):Ef L 129 (stepQ L f):=by
 intro s x s' h ha
 unfold stepQ at h
 simp only at h
 refine ai ac false Tryz.func129 rfl ae ?_
 simp only[Tryz.f129,tt,seval]
 refine cS (eN L hL hT s 1 aa aa ha) ?_ ?_<;>simp (maxSteps:=9999999) only[tt,seval,PB]
 refine cS (bf L hL hT s (aw L s 1) (fun h=>aA h)) ?_ ?_<;>simp (maxSteps:=9999999) only[tt,seval,PB]
 have o1:Ok L s (must (aw L s 1) s):=Ok.must fun h=>aA h
 have ha1:=o1.2.1 ha
 generalize must (aw L s 1) s=u1 at *
 refine cS (bx L hL hT u1 2 aa aa ha1) ?_ ?_<;>simp (maxSteps:=9999999) only[tt,seval,PB]
 have o2:Ok L u1 (tkIf (aw L u1 2) u1):=Ok.tkIf fun h=>aA h
 have ha2:=o2.2.1 ha1
 generalize tkIf (aw L u1 2) u1=u2 at *
 generalize aw L u1 2=dist at *
 split at h
 ·cases h
 rename_i its u3 hits
 unfold eu at hits
 split at hits
 ·cases hits
 rename_i it1 v1 hit1
 have c1:=nP L hL hT ok hf1 _ _ _ hit1 ha2
 obtain⟨star1,qual1,⟨k1,p1,n1,w1,q1,m1,ks1,ss1⟩,as1⟩:=it1
 rw[Item.row_mk,al] at c1
 have hav1:=(OkM.item ok _ _ _ hit1).2.1 ha2
 apply jM 0 2 3
 case h1=>
  refine dDrawn.intro [16] (.take 0 (.take 2 (.br 1 (.br 3 (.br 4 (.br 5 (.take 6 (.br 7 .done .nobr)) .nobr) .nobr) .nobr) (.br 3 (.take 1 (.br 4 (.br 5 (.take 6 (.br 7 .done .nobr)) .nobr) .nobr)) .nobr)))) ae ?_
  simp (maxSteps:=9999999) only[tt,seval]
  all_goals repeat' first|refine dO ?_ ?_|refine bz ?_ ?_
  all_goals
   refine cS (c1) ?_ ?_
   ·simp (maxSteps:=9999999) only[tt,seval,PB]
    decide
   simp (maxSteps:=9999999) only[tt,seval,PB]
  all_goals repeat' first|refine lO ?_ ?_|refine eO ?_ ?_|refine eP ?_ ?_
  all_goals
   refine kU ?_
  all_goals exact⟨rfl,rfl,rfl,rfl,rfl⟩
 case h2=>
  intro f' hj0 hj1 hj2
  simp (maxSteps:=9999999) only[tt,seval]
  refine dLoop.gh [.ren 18 29] ⟨ah,ah,?_⟩
  refine dLoop0.intro (fun f' Lo p=>∃(m:List Item) (v:PS) (n:Nat),f9 L (dF L f) n m v=some (its,u3)/\v.a<=L.length/\m.length<=v.a+1/\Lo=[(9000,.str (PB L v)),(3,.str [.v (.bool dist),.s 29 (m).length,.v (.slice none 0 0),.v (.slice none 0 0),.v (.slice none 0 0),.v (.int .i64 (-1))]),(29,.arr 105 (m).length ((m).flatMap Item.row) none),(2,.str [.v (.bool false),.v (.slice none 0 0),.v (.slice none 0 0),.v (.slice none 0 0),.v (.slice none 0 0),.v (.int .i64 0)])]/\p=none) (fun _ Lo _=>L.length-Eg Lo) [(9000,.str (PB L v1)),(3,.str [.v (.bool dist),.s 29 ([(Item.mk star1 qual1 (Expr.mk k1 p1 n1 w1 q1 m1 ks1 ss1) as1)]).length,.v (.slice none 0 0),.v (.slice none 0 0),.v (.slice none 0 0),.v (.int .i64 (-1))]),(29,.arr 105 ([(Item.mk star1 qual1 (Expr.mk k1 p1 n1 w1 q1 m1 ks1 ss1) as1)]).length (([(Item.mk star1 qual1 (Expr.mk k1 p1 n1 w1 q1 m1 ks1 ss1) as1)]).flatMap Item.row) none),(2,.str [.v (.bool false),.v (.slice none 0 0),.v (.slice none 0 0),.v (.slice none 0 0),.v (.slice none 0 0),.v (.int .i64 0)])] none ⟨by simp only[PB,al,List.flatMap_nil,List.flatMap_cons,List.append_nil,List.length_nil,List.length_cons,Item.row_mk,lc];exact ak rfl (ak rfl (ak rfl (ak rfl (ao _)))),aq _,?_⟩ ?_
  ·simp (maxSteps:=9999999) only[tt,seval]
   exact⟨[(Item.mk star1 qual1 (Expr.mk k1 p1 n1 w1 q1 m1 ks1 ss1) as1)],v1,L.length+1,hits,hav1,by simp,rfl⟩
  ·rintro g' Lo p ⟨m,v,n,hm,hv,hml,rfl,rfl⟩
   simp (maxSteps:=9999999) only[tt,seval,hj0]
   refine cS (cE L hL hT v 44 hv) ?_ ?_<;>simp (maxSteps:=9999999) only[tt,seval,PB,hj0]
   cases n with
   |zero=>cases hm
   |succ n=>
   rw[f9] at hm
   cases c44:bt L v 44 with
   |true=>
    rw[if_pos c44] at hm
    split at hm
    ·cases hm
    rename_i z w hz
    obtain⟨hb,hlt⟩:=aK c44
    have hav:=bo (L:=L) (aK c44)
    have o3:=OkM.item ok _ _ _ hz
    have o3a:v.a+1<=w.a:=o3.1
    have hw:=o3.2.1 hav
    have c2:=nP L hL hT ok hf1 _ _ _ hz hav
    obtain⟨star2,qual2,⟨k2,p2,n2,w2,q2,m2,ks2,ss2⟩,as2⟩:=z
    rw[Item.row_mk,al] at c2
    simp (maxSteps:=9999999) only[tt,seval]
    refine cS (bf L hL hT v true (fun _=>aK c44)) ?_ ?_<;>simp (maxSteps:=9999999) only[tt,seval,PB,xA]
    apply bH 3
    case h1=>
     refine dDrawn.intro [27] (.take 0 (.take 2 (.br 1 (.br 3 (.br 4 (.br 5 (.take 6 (.br 7 .done .nobr)) .nobr) .nobr) .nobr) (.br 3 (.take 1 (.br 4 (.br 5 (.take 6 (.br 7 .done .nobr)) .nobr) .nobr)) .nobr)))) ae ?_
     simp (maxSteps:=9999999) only[tt,seval]
     all_goals try simp (maxSteps:=9999999) only[tt,seval,hj0,hj2]
     all_goals repeat' first|refine dO ?_ ?_|refine bz ?_ ?_
     all_goals
      refine cS (c2) ?_ ?_
      ·simp (maxSteps:=9999999) only[tt,seval,PB]
       decide
      simp (maxSteps:=9999999) only[tt,seval,PB,hj2]
     all_goals repeat' first|refine lO ?_ ?_|refine eO ?_ ?_|refine eP ?_ ?_
     all_goals
      refine kU ?_
     all_goals exact⟨rfl,rfl,rfl⟩
    case h2=>
     intro f' hk0
     refine⟨[(9000,.str (PB L w)),(3,.str [.v (.bool dist),.s 29 ((m++[(Item.mk star2 qual2 (Expr.mk k2 p2 n2 w2 q2 m2 ks2 ss2) as2)])).length,.v (.slice none 0 0),.v (.slice none 0 0),.v (.slice none 0 0),.v (.int .i64 (-1))]),(29,.arr 105 ((m++[(Item.mk star2 qual2 (Expr.mk k2 p2 n2 w2 q2 m2 ks2 ss2) as2)])).length (((m++[(Item.mk star2 qual2 (Expr.mk k2 p2 n2 w2 q2 m2 ks2 ss2) as2)])).flatMap Item.row) none),(2,.str [.v (.bool false),.v (.slice none 0 0),.v (.slice none 0 0),.v (.slice none 0 0),.v (.slice none 0 0),.v (.int .i64 0)])],none,by simp only[PB,al,List.flatMap_nil,List.flatMap_cons,List.append_nil,List.length_nil,List.length_cons,Item.row_mk,lc,List.flatMap_append,aC];exact ak rfl (ak rfl (ak rfl (ak rfl (ao _)))),aq _,⟨m++[(Item.mk star2 qual2 (Expr.mk k2 p2 n2 w2 q2 m2 ks2 ss2) as2)],w,n,hm,hw,by simp;omega,rfl,rfl⟩,?_⟩
     show L.length-((w.a:Int)).toNat<L.length-((v.a:Int)).toNat
     omega
   |false=>
    rw[if_neg (by rw[c44];simp)] at hm
    injection hm with hm;injection hm with e1 e2;subst e1 e2
    simp (maxSteps:=9999999) only[tt,seval]
    refine cS (eN L hL hT v 3 aa aa hv) ?_ ?_<;>simp (maxSteps:=9999999) only[tt,seval,PB]
    refine cS (bf L hL hT v (aw L v 3) (fun h=>aA h)) ?_ ?_<;>simp (maxSteps:=9999999) only[tt,seval,PB]
    have o4:Ok L v (must (aw L v 3) v):=Ok.must fun h=>aA h
    have ha4:=o4.2.1 hv
    generalize must (aw L v 3) v=u4 at *
    have c3:=lA L hL hT u4 ha4
    have ha5:=(Ok.sourceM (L:=L) u4).2.1 ha4
    generalize (sourceM L u4).2=v5 at *
    generalize (sourceM L u4).1=sr1 at *
    obtain⟨tb1,sa1,on1⟩:=sr1
    rw[Source.row_mk] at c3
    apply jM 0 2 3
    case h1=>
     refine dDrawn.intro [38] (.take 0 (.take 2 (.br 1 (.br 3 (.br 4 (.br 5 (.take 6 (.br 7 .done .nobr)) .nobr) .nobr) .nobr) (.br 3 (.take 1 (.br 4 (.br 5 (.take 6 (.br 7 .done .nobr)) .nobr) .nobr)) .nobr)))) ae ?_
     simp (maxSteps:=9999999) only[tt,seval]
     all_goals try simp (maxSteps:=9999999) only[tt,seval,hj0,hj2]
     all_goals repeat' first|refine dO ?_ ?_|refine bz ?_ ?_
     all_goals
      refine cS (c3) ?_ ?_
      ·simp (maxSteps:=9999999) only[tt,seval,PB]
       decide
      simp (maxSteps:=9999999) only[tt,seval,PB,hj0,hj1,hj2]
     all_goals repeat' first|refine lO ?_ ?_|refine eO ?_ ?_|refine eP ?_ ?_
     all_goals
      refine kU ?_
     all_goals exact⟨rfl,rfl,rfl,rfl,rfl⟩
    case h2=>
     intro f' hi0 hi1 hi2
     simp (maxSteps:=9999999) only[tt,seval]
     split at h
     ·cases h
     rename_i frs s4 hfrs
     refine dLoop.gh [.ren 40 67] ⟨ah,ah,?_⟩
     refine dLoop0.intro (fun f' Lo p=>∃(l:List Source) (v:PS) (n:Nat),bE L f n l v=some (frs,s4)/\v.a<=L.length/\l.length<=v.a+1/\Lo=[(9000,.str (PB L v)),(3,.str [.v (.bool dist),.s 29 m.length,.s 67 (l).length,.v (.slice none 0 0),.v (.slice none 0 0),.v (.int .i64 (-1))]),(29,.arr 105 m.length (m.flatMap Item.row) none),(67,.arr 107 (l).length ((l).flatMap Source.row) none),(2,.str [.v (.bool false),.v (.slice none 0 0),.v (.slice none 0 0),.v (.slice none 0 0),.v (.slice none 0 0),.v (.int .i64 0)])]/\p=none) (fun _ Lo _=>L.length-Eg Lo) [(9000,.str (PB L v5)),(3,.str [.v (.bool dist),.s 29 m.length,.s 67 ([(Source.mk tb1 sa1 on1)]).length,.v (.slice none 0 0),.v (.slice none 0 0),.v (.int .i64 (-1))]),(29,.arr 105 m.length (m.flatMap Item.row) none),(67,.arr 107 ([(Source.mk tb1 sa1 on1)]).length (([(Source.mk tb1 sa1 on1)]).flatMap Source.row) none),(2,.str [.v (.bool false),.v (.slice none 0 0),.v (.slice none 0 0),.v (.slice none 0 0),.v (.slice none 0 0),.v (.int .i64 0)])] none ⟨by simp only[PB,List.flatMap_nil,List.flatMap_cons,List.append_nil,List.length_nil,List.length_cons,Source.row_mk];exact ak rfl (ak rfl (ak rfl (ak rfl (ak rfl (ao _))))),aq _,?_⟩ ?_
     ·simp (maxSteps:=9999999) only[tt,seval]
      exact⟨[(Source.mk tb1 sa1 on1)],v5,L.length+1,hfrs,ha5,by simp,rfl⟩
     ·rintro g2 Lo p ⟨l,v6,n2,hm2,hv6,hml2,rfl,rfl⟩
      simp (maxSteps:=9999999) only[tt,seval,hi0]
      refine cS (cE L hL hT v6 44 hv6) ?_ ?_<;>simp (maxSteps:=9999999) only[tt,seval,PB]
      cases n2 with
      |zero=>cases hm2
      |succ n2=>
      rw[bE] at hm2
      cases c44:bt L v6 44 with
      |true=>
       have k4:aw L v6 4=false:=by
        cases e:aw L v6 4 with
        |false=>rfl
        |true=>have:=qW (c:=44) e;rw[c44] at this;cases this
       rw[if_pos c44] at hm2
       have hav:=bo (L:=L) (aK c44)
       have hlt:=(aK c44).2
       have c4:=lA L hL hT (adv v6) hav
       have o6:=Ok.sourceM (L:=L) (adv v6)
       have o6a:v6.a+1<=(sourceM L (adv v6)).2.a:=o6.1
       have hw:=o6.2.1 hav
       generalize (sourceM L (adv v6)).2=w6 at *
       generalize (sourceM L (adv v6)).1=sr2 at *
       obtain⟨tb2,sa2,on2⟩:=sr2
       rw[Source.row_mk] at c4
       refine ab (fun _=>?_) (fun hx=>by cases hx)
       simp (maxSteps:=9999999) only[tt,seval,hi0]
       refine cS (eN L hL hT v6 4 aa aa hv6) ?_ ?_<;>simp (maxSteps:=9999999) only[tt,seval,PB,hi0]
       simp (maxSteps:=9999999) only[seval,k4]
       refine cS (bf L hL hT v6 true (fun _=>aK c44)) ?_ ?_<;>simp (maxSteps:=9999999) only[tt,seval,PB,xA,hi0]
       refine cS (c4) ?_ ?_<;>simp (maxSteps:=9999999) only[tt,seval,PB,hi0,hi2]
       refine kU ?_
       refine⟨[(9000,.str (PB L w6)),(3,.str [.v (.bool dist),.s 29 m.length,.s 67 ((l++[Source.mk tb2 sa2 on2])).length,.v (.slice none 0 0),.v (.slice none 0 0),.v (.int .i64 (-1))]),(29,.arr 105 m.length (m.flatMap Item.row) none),(67,.arr 107 ((l++[Source.mk tb2 sa2 on2])).length (((l++[Source.mk tb2 sa2 on2])).flatMap Source.row) none),(2,.str [.v (.bool false),.v (.slice none 0 0),.v (.slice none 0 0),.v (.slice none 0 0),.v (.slice none 0 0),.v (.int .i64 0)])],none,by simp only[PB,List.flatMap_nil,List.flatMap_cons,List.append_nil,List.length_nil,List.length_cons,Source.row_mk,List.flatMap_append,aC];exact ak rfl (ak rfl (ak rfl (ak rfl (ak rfl (ao _))))),aq _,⟨l++[Source.mk tb2 sa2 on2],w6,n2,hm2,hw,by simp;omega,rfl,rfl⟩,?_⟩
       show L.length-((w6.a:Int)).toNat<L.length-((v6.a:Int)).toNat
       omega
      |false=>
       rw[if_neg (by rw[c44];simp)] at hm2
       refine ab (fun hx=>by cases hx) (fun _=>?_)
       simp (maxSteps:=9999999) only[tt,seval,hi0]
       refine cS (eN L hL hT v6 4 aa aa hv6) ?_ ?_<;>simp (maxSteps:=9999999) only[tt,seval,PB,hi0]
       cases k4:aw L v6 4 with
       |true=>
        rw[if_pos k4] at hm2
        simp only at hm2
        split at hm2
        ·cases hm2
        rename_i e7 s7 he7
        have hav:=bo (L:=L) (aA k4)
        have hlt:=(aA k4).2
        have c4:=lA L hL hT (adv v6) hav
        have o6:=Ok.sourceM (L:=L) (adv v6)
        have o6a:v6.a+1<=(sourceM L (adv v6)).2.a:=o6.1
        have hw:=o6.2.1 hav
        generalize (sourceM L (adv v6)).2=w6 at *
        generalize (sourceM L (adv v6)).1=sr2 at *
        obtain⟨tb2,sa2,on2⟩:=sr2
        rw[Source.row_mk] at c4
        simp (maxSteps:=9999999) only[tt,seval]
        refine cS (eN L hL hT v6 4 aa aa hv6) ?_ ?_<;>simp (maxSteps:=9999999) only[tt,seval,PB,hi0]
        simp (maxSteps:=9999999) only[seval,k4]
        refine cS (bf L hL hT v6 true (fun _=>aA k4)) ?_ ?_<;>simp (maxSteps:=9999999) only[tt,seval,PB,xA,hi0]
        refine cS (c4) ?_ ?_<;>simp (maxSteps:=9999999) only[tt,seval,PB,hi0,hi2]
        refine cS (eN L hL hT w6 5 aa aa hw) ?_ ?_<;>simp (maxSteps:=9999999) only[tt,seval,PB]
        refine cS (bf L hL hT w6 (aw L w6 5) (fun h=>aA h)) ?_ ?_<;>simp (maxSteps:=9999999) only[tt,seval,PB,hi0]
        have o7:Ok L w6 (must (aw L w6 5) w6):=Ok.must fun h=>aA h
        have o7a:=o7.1
        have hw7:=o7.2.1 hw
        generalize must (aw L w6 5) w6=w7 at *
        have o8:=ok 1 _ _ _ he7
        have o8a:=o8.1
        have hs7:=o8.2.1 hw7
        obtain⟨k7,p7,n7,x7,q7,m7,ks7,ss7⟩:=e7
        have c7:=hf1 _ _ _ he7 hw7
        rw[al] at c7
        refine cS (c7) ?_ ?_<;>simp (maxSteps:=9999999) only[tt,seval,PB,hi2]
        refine kU ?_
        refine⟨[(9000,.str (PB L s7)),(3,.str [.v (.bool dist),.s 29 m.length,.s 67 ((l++[Source.mk tb2 sa2 [Expr.mk k7 p7 n7 x7 q7 m7 ks7 ss7]])).length,.v (.slice none 0 0),.v (.slice none 0 0),.v (.int .i64 (-1))]),(29,.arr 105 m.length (m.flatMap Item.row) none),(67,.arr 107 ((l++[Source.mk tb2 sa2 [Expr.mk k7 p7 n7 x7 q7 m7 ks7 ss7]])).length (((l++[Source.mk tb2 sa2 [Expr.mk k7 p7 n7 x7 q7 m7 ks7 ss7]])).flatMap Source.row) none),(2,.str [.v (.bool false),.v (.slice none 0 0),.v (.slice none 0 0),.v (.slice none 0 0),.v (.slice none 0 0),.v (.int .i64 0)])],none,by simp only[PB,al,List.flatMap_nil,List.flatMap_cons,List.append_nil,List.length_nil,List.length_cons,Source.row_mk,List.flatMap_append,aC];exact ak rfl (ak rfl (ak rfl (ak rfl (ak rfl (ao _))))),aq _,⟨l++[Source.mk tb2 sa2 [Expr.mk k7 p7 n7 x7 q7 m7 ks7 ss7]],s7,n2,hm2,hs7,by simp;omega,rfl,rfl⟩,?_⟩
        show L.length-((s7.a:Int)).toNat<L.length-((v6.a:Int)).toNat
        omega
       |false=>
        rw[if_neg (by rw[k4];simp)] at hm2
        injection hm2 with hm2;injection hm2 with e1 e2;subst e1 e2
        simp (maxSteps:=9999999) only[tt,seval]
        split at h
        ·cases h
        rename_i wh s5 hwh
        have hs5:=(OkM.wher ok _ _ _ hwh).2.1 hv6
        have cw:=si L hL hT hf1 _ _ _ hwh hv6
        refine cS (cw) ?_ ?_<;>simp (maxSteps:=9999999) only[tt,seval,PB,hi0,hi2]
        refine cS (bx L hL hT s5 7 aa aa hs5) ?_ ?_<;>simp (maxSteps:=9999999) only[tt,seval,PB,hi0]
        split at h
        ·cases h
        rename_i ord s6 hord
        unfold dY at hord
        cases c7:aw L s5 7 with
        |false=>
         rw[if_neg (by rw[c7];simp)] at hord
         injection hord with hord;injection hord with e1 e2;subst e1 e2
         simp (maxSteps:=9999999) only[tt,seval,jb]
         refine cS (bx L hL hT s5 11 aa aa hs5) ?_ ?_<;>simp (maxSteps:=9999999) only[tt,seval,PB,hi0,hi1,hi2]
         cases wH:aw L s5 11 with
         |true=>
          have hlim:limitM L s5=(fG (mText L 3 (adv s5)).1,(mText L 3 (adv s5)).2):=by rw[limitM,if_pos wH];rfl
          rw[hlim] at h
          injection h with h;injection h with h1 h2;subst h1 h2
          have hsz:=vS hL hT (adv s5) 3
          simp (maxSteps:=9999999) only[tt,seval,jq]
          refine cS (eU L hL hT (adv s5) 3 aa (bo (aA wH))) ?_ ?_<;>simp (maxSteps:=9999999) only[tt,seval,PB]
          generalize (mText L 3 (adv s5)).1=xn at *
          generalize (mText L 3 (adv s5)).2=sn at *
          refine cZ (nI xn hsz) ?_ ?_<;>simp (maxSteps:=9999999) only[tt,seval,mA,hi1,hi2]
          refine⟨.ag (ar (Query.mk dist m l wh ([]:List SortKey) (fG xn)).row),[PB L (sn)],⟨rfl,rfl⟩,am ?_⟩
          simp (maxSteps:=9999999) only[tt,seval,PB,aF,PB]
         |false=>
          have hlim:limitM L s5=(-1,s5):=by rw[limitM,if_neg (by rw[wH];simp)]
          rw[hlim] at h
          injection h with h;injection h with h1 h2;subst h1 h2
          simp (maxSteps:=9999999) only[tt,seval,jb]
          refine⟨.ag (ar (Query.mk dist m l wh ([]:List SortKey) (-1)).row),[PB L (s5)],⟨rfl,rfl⟩,am ?_⟩
          simp (maxSteps:=9999999) only[tt,seval,PB,aF,PB]
        |true=>
         rw[if_pos c7] at hord
         simp only at hord
         split at hord
         ·cases hord
         rename_i z1 y1 hz1
         simp (maxSteps:=9999999) only[tt,seval,jq]
         have hav5:=bo (L:=L) (aA c7)
         have hlt5:=(aA c7).2
         refine cS (eN L hL hT (adv s5) 8 aa aa hav5) ?_ ?_<;>simp (maxSteps:=9999999) only[tt,seval,PB]
         refine cS (bf L hL hT (adv s5) (aw L (adv s5) 8) (fun h=>aA h)) ?_ ?_<;>simp (maxSteps:=9999999) only[tt,seval,PB]
         have o9:Ok L (adv s5) (must (aw L (adv s5) 8) (adv s5)):=Ok.must fun h=>aA h
         have hu9:=o9.2.1 hav5
         generalize must (aw L (adv s5) 8) (adv s5)=u9 at *
         have c9:=nO L hL hT ok hf1 _ _ _ hz1 hu9
         have hy1:=(OkM.sort ok _ _ _ hz1).2.1 hu9
         obtain⟨⟨k9,p9,n9,x9,q9,m9,ks9,ss9⟩,de9⟩:=z1
         rw[SortKey.row_mk,al] at c9
         apply jM 0 2 3
         case h1=>
          refine dDrawn.intro [81] (.take 0 (.take 2 (.br 1 (.br 3 (.br 4 (.br 5 (.take 6 (.br 7 .done .nobr)) .nobr) .nobr) .nobr) (.br 3 (.take 1 (.br 4 (.br 5 (.take 6 (.br 7 .done .nobr)) .nobr) .nobr)) .nobr)))) ae ?_
          simp (maxSteps:=9999999) only[tt,seval]
          all_goals try simp (maxSteps:=9999999) only[tt,seval,hi0,hi2]
          all_goals repeat' first|refine dO ?_ ?_|refine bz ?_ ?_
          all_goals
           refine cS (c9) ?_ ?_
           ·simp (maxSteps:=9999999) only[tt,seval,PB]
            decide
           simp (maxSteps:=9999999) only[tt,seval,PB,hi0,hi1,hi2]
          all_goals repeat' first|refine lO ?_ ?_|refine eO ?_ ?_|refine eP ?_ ?_
          all_goals
           refine kU ?_
          all_goals exact⟨rfl,rfl,rfl,rfl,rfl⟩
         case h2=>
          intro f' hl0 hl1 hl2
          simp (maxSteps:=9999999) only[tt,seval]
          refine dLoop.gh [.ren 83 94] ⟨ah,ah,?_⟩
          refine dLoop0.intro (fun f' Lo p=>∃(l9:List SortKey) (v9:PS) (n9':Nat),f9 L (dV L f) n9' l9 v9=some (ord,s6)/\v9.a<=L.length/\l9.length<=v9.a+1/\Lo=[(9000,.str (PB L v9)),(3,.str [.v (.bool dist),.s 29 m.length,.s 67 l.length,.sl wh.length (wh.flatMap Expr.row) none,.s 94 (l9).length,.v (.int .i64 (-1))]),(29,.arr 105 m.length (m.flatMap Item.row) none),(67,.arr 107 l.length (l.flatMap Source.row) none),(94,.arr 109 (l9).length ((l9).flatMap SortKey.row) none),(2,.str [.v (.bool false),.v (.slice none 0 0),.v (.slice none 0 0),.v (.slice none 0 0),.v (.slice none 0 0),.v (.int .i64 0)])]/\p=none) (fun _ Lo _=>L.length-Eg Lo) [(9000,.str (PB L y1)),(3,.str [.v (.bool dist),.s 29 m.length,.s 67 l.length,.sl wh.length (wh.flatMap Expr.row) none,.s 94 ([(SortKey.mk (Expr.mk k9 p9 n9 x9 q9 m9 ks9 ss9) de9)]).length,.v (.int .i64 (-1))]),(29,.arr 105 m.length (m.flatMap Item.row) none),(67,.arr 107 l.length (l.flatMap Source.row) none),(94,.arr 109 ([(SortKey.mk (Expr.mk k9 p9 n9 x9 q9 m9 ks9 ss9) de9)]).length (([(SortKey.mk (Expr.mk k9 p9 n9 x9 q9 m9 ks9 ss9) de9)]).flatMap SortKey.row) none),(2,.str [.v (.bool false),.v (.slice none 0 0),.v (.slice none 0 0),.v (.slice none 0 0),.v (.slice none 0 0),.v (.int .i64 0)])] none ⟨by simp only[PB,al,List.flatMap_nil,List.flatMap_cons,List.append_nil,List.length_nil,List.length_cons,SortKey.row_mk,lc];exact ak rfl (ak rfl (ak rfl (ak rfl (ak rfl (ak rfl (ao _)))))),aq _,?_⟩ ?_
          ·simp (maxSteps:=9999999) only[tt,seval]
           exact⟨[(SortKey.mk (Expr.mk k9 p9 n9 x9 q9 m9 ks9 ss9) de9)],y1,L.length+1,hord,hy1,by simp,rfl⟩
          ·rintro g3 Lo p ⟨l9,v9,n9',hm9,hv9,hml9,rfl,rfl⟩
           simp (maxSteps:=9999999) only[tt,seval,hl0]
           refine cS (cE L hL hT v9 44 hv9) ?_ ?_<;>simp (maxSteps:=9999999) only[tt,seval,PB,hl0]
           cases n9' with
           |zero=>cases hm9
           |succ n9'=>
           rw[f9] at hm9
           cases c44:bt L v9 44 with
           |true=>
            rw[if_pos c44] at hm9
            split at hm9
            ·cases hm9
            rename_i za wa hza
            obtain⟨hb9,hlt9⟩:=aK c44
            have hav9:=bo (L:=L) (aK c44)
            have oa:=OkM.sort ok _ _ _ hza
            have oaa:v9.a+1<=wa.a:=oa.1
            have hwa:=oa.2.1 hav9
            have ca:=nO L hL hT ok hf1 _ _ _ hza hav9
            obtain⟨⟨ka,pa,na,xa,qa,ma,ksa,ssa⟩,dea⟩:=za
            rw[SortKey.row_mk,al] at ca
            simp (maxSteps:=9999999) only[tt,seval]
            refine cS (bf L hL hT v9 true (fun _=>aK c44)) ?_ ?_<;>simp (maxSteps:=9999999) only[tt,seval,PB,xA]
            apply bH 3
            case h1=>
             refine dDrawn.intro [92] (.take 0 (.take 2 (.br 1 (.br 3 (.br 4 (.br 5 (.take 6 (.br 7 .done .nobr)) .nobr) .nobr) .nobr) (.br 3 (.take 1 (.br 4 (.br 5 (.take 6 (.br 7 .done .nobr)) .nobr) .nobr)) .nobr)))) ae ?_
             simp (maxSteps:=9999999) only[tt,seval]
             all_goals try simp (maxSteps:=9999999) only[tt,seval,hl0,hl2]
             all_goals repeat' first|refine dO ?_ ?_|refine bz ?_ ?_
             all_goals
              refine cS (ca) ?_ ?_
              ·simp (maxSteps:=9999999) only[tt,seval,PB]
               decide
              simp (maxSteps:=9999999) only[tt,seval,PB,hl2]
             all_goals repeat' first|refine lO ?_ ?_|refine eO ?_ ?_|refine eP ?_ ?_
             all_goals
              refine kU ?_
             all_goals exact⟨rfl,rfl,rfl⟩
            case h2=>
             intro f' hn0
             refine⟨[(9000,.str (PB L wa)),(3,.str [.v (.bool dist),.s 29 m.length,.s 67 l.length,.sl wh.length (wh.flatMap Expr.row) none,.s 94 ((l9++[(SortKey.mk (Expr.mk ka pa na xa qa ma ksa ssa) dea)])).length,.v (.int .i64 (-1))]),(29,.arr 105 m.length (m.flatMap Item.row) none),(67,.arr 107 l.length (l.flatMap Source.row) none),(94,.arr 109 ((l9++[(SortKey.mk (Expr.mk ka pa na xa qa ma ksa ssa) dea)])).length (((l9++[(SortKey.mk (Expr.mk ka pa na xa qa ma ksa ssa) dea)])).flatMap SortKey.row) none),(2,.str [.v (.bool false),.v (.slice none 0 0),.v (.slice none 0 0),.v (.slice none 0 0),.v (.slice none 0 0),.v (.int .i64 0)])],none,by simp only[PB,al,List.flatMap_nil,List.flatMap_cons,List.append_nil,List.length_nil,List.length_cons,SortKey.row_mk,lc,List.flatMap_append,aC];exact ak rfl (ak rfl (ak rfl (ak rfl (ak rfl (ak rfl (ao _)))))),aq _,⟨l9++[(SortKey.mk (Expr.mk ka pa na xa qa ma ksa ssa) dea)],wa,n9',hm9,hwa,by simp;omega,rfl,rfl⟩,?_⟩
             show L.length-((wa.a:Int)).toNat<L.length-((v9.a:Int)).toNat
             omega
           |false=>
            rw[if_neg (by rw[c44];simp)] at hm9
            injection hm9 with hm9;injection hm9 with e1 e2;subst e1 e2
            simp (maxSteps:=9999999) only[tt,seval]
            refine cS (bx L hL hT v9 11 aa aa hv9) ?_ ?_<;>simp (maxSteps:=9999999) only[tt,seval,PB,hl0,hl1,hl2]
            cases wH:aw L v9 11 with
            |true=>
             have hlim:limitM L v9=(fG (mText L 3 (adv v9)).1,(mText L 3 (adv v9)).2):=by rw[limitM,if_pos wH];rfl
             rw[hlim] at h
             injection h with h;injection h with h1 h2;subst h1 h2
             have hsz:=vS hL hT (adv v9) 3
             simp (maxSteps:=9999999) only[tt,seval,jq]
             refine cS (eU L hL hT (adv v9) 3 aa (bo (aA wH))) ?_ ?_<;>simp (maxSteps:=9999999) only[tt,seval,PB]
             generalize (mText L 3 (adv v9)).1=xn at *
             generalize (mText L 3 (adv v9)).2=sn at *
             refine cZ (nI xn hsz) ?_ ?_<;>simp (maxSteps:=9999999) only[tt,seval,mA,hl1,hl2]
             refine⟨.ag (ar (Query.mk dist m l wh l9 (fG xn)).row),[PB L (sn)],⟨rfl,rfl⟩,am ?_⟩
             simp (maxSteps:=9999999) only[tt,seval,PB,aF,PB]
            |false=>
             have hlim:limitM L v9=(-1,v9):=by rw[limitM,if_neg (by rw[wH];simp)]
             rw[hlim] at h
             injection h with h;injection h with h1 h2;subst h1 h2
             simp (maxSteps:=9999999) only[tt,seval,jb]
             refine⟨.ag (ar (Query.mk dist m l wh l9 (-1)).row),[PB L (v9)],⟨rfl,rfl⟩,am ?_⟩
             simp (maxSteps:=9999999) only[tt,seval,PB,aF,PB]
theorem Gz (L:List Tok) (hL:L.length<=1048576) (hT:∀t∈L,t.text.size<=1048576):∀k,(∀lv:Nat,1<=lv->lv<=8->pF L 172 [vi lv] ((pP L k).1 lv))/\pF L 267 [] ((pP L k).1 9)/\Ef L 129 (pP L k).2
 |0=>⟨fun _ _ _ _ _ _ h=>(by cases h),fun _ _ _ h=>(by cases h),fun _ _ _ h=>(by cases h)⟩
 |k+1=>by
  obtain⟨h1,h2,h3⟩:=Gz L hL hT k
  obtain⟨ok,okq⟩:=kF (L:=L) k
  refine⟨fun lv a b=>?_,?_,?_⟩
  ·show pF L _ _ (stepE L (pP L k).1 (pP L k).2 lv)
   by_cases e3:lv=3
   ·subst e3;exact Ci L hL hT ok okq h1 h2 h3
   by_cases e4:lv=4
   ·subst e4;exact Cj L hL hT ok okq h1 h2 h3
   by_cases e8:lv=8
   ·subst e8;exact Ck L hL hT ok okq h1 h2 h3
   ·exact Cm L hL hT ok okq h1 h2 h3 lv (by simp only[List.mem_cons,List.not_mem_nil,or_false];omega)
  ·have e:(pP L (k+1)).1 9=dk L (pP L k).1 (pP L k).2:=rfl
   rw[e]
   exact ug L hL hT (ok 1) okq (h1 1 aa aa) h3
  ·exact sj L hL hT ok (h1 1 aa aa)
theorem xX (L:List Tok) (hL:L.length<=1048576) (hT:∀t∈L,t.text.size<=1048576):Ef L 129 (ey L):=(Gz L hL hT (pD L)).2.2
theorem vT (L:List Tok) (hL:L.length<=1048576) (hT:∀t∈L,t.text.size<=1048576):Cl Tryz.prog 71 [.c (.sl L.length (L.flatMap Tok.row) none)] [] fun r _=>r = .tu [(ar (bI L).1.row,false),([.v (.int .i64 (bI L).2)],true)]:=by
 obtain⟨x,s1,hx⟩:=jw (L:=L) s0
 have ha:=(mj (L:=L) _ _ _ hx).2.1 (Nat.zero_le _)
 have c1:=xX L hL hT _ _ _ hx (Nat.zero_le _)
 have ht:bI L=f7 L zQuery (some (x,s1)):=by unfold bI;rw[hx]
 rw[ht]
 obtain⟨d,its,frs,whs,ods,lim⟩:=x
 rw[aF] at c1
 refine ai ac false Tryz.func71 rfl ae ?_
 simp only[Tryz.f71,tt,seval]
 refine cS (c1) ?_ ?_<;>simp only[tt,seval,PB,s0]
 refine cS (Co L hL hT s1 ha) ?_ ?_<;>simp only[tt,seval,PB]
 refine ab (fun hb=>?_) (fun hb=>?_)
 ·have e:f7 L zQuery (some (Query.mk d its frs whs ods lim,s1))=(zQuery,kf L s1):=if_pos hb
  rw[e]
  refine⟨_,[],rfl,am ?_⟩
  simp only[tt,seval,aF,zQuery]
 ·have e:f7 L zQuery (some (Query.mk d its frs whs ods lim,s1))=(Query.mk d its frs whs ods lim,-1):=if_neg aa
  rw[e]
  refine⟨_,[],rfl,am ?_⟩
  simp only[tt,seval,aF]
end Go.Proofs.YtbodcedhmccenaaGreatDoor
