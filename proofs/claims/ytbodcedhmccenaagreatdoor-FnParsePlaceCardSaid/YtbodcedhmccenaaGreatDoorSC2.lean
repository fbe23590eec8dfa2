/-
  The reference's parser, second half.
  Conditions: none.
-/
import Derived.Test.YtbodcedhmccenaaGreatDoorSC1
set_option linter.unusedVariables false
set_option linter.unusedSimpArgs false
set_option linter.unusedSectionVars false
set_option maxRecDepth 8000
namespace Go.Proofs.YtbodcedhmccenaaGreatDoor
open Go Go.Dv
open Go.Vc (D d5 d6 cM bo)
theorem kr (L:List Tok) (hL:L.length<=1048576) (hT:∀t∈L,t.text.size<=1048576) (s:PS) (ha:s.a<=L.length):Cl Tryz.prog 231 [.c (.p 9000 0)] [PB L s] fun r os=>r = .ag (ar (sourceM L s).1.row)/\os=[PB L (sourceM L s).2]:=by
 refine ah ab false Tryz.func231 rfl (by kernel_rfl) ?_
 simp only[Tryz.f231,tt,seval]
 refine cS (cT L hL hT s 2 (by omega) ha) ?_ ?_<;>simp only[tt,seval,PB]
 have ha1:=(Ok.mText (L:=L) 2 s).2.1 ha
 have he:sourceM L s=(.mk (mText L 2 s).1 (asM L (mText L 2 s).2).1 [],(asM L (mText L 2 s).2).2):=rfl
 rw[he]
 generalize (mText L 2 s).1=x at *
 generalize (mText L 2 s).2=u at *
 refine cS (la L hL hT u ha1) ?_ ?_<;>simp only[tt,seval,PB]
 refine⟨.ag (ar (Source.mk x (asM L u).1 []).row),[PB L (asM L u).2],⟨rfl,rfl⟩,ai ?_⟩
 simp only[tt,seval,PB,Source.row_mk]
def GU (L:List Tok) (fn:FuncId) (m:PM (List Expr)):Prop:=∀s x s',m s=some (x,s')->s.a<=L.length->Cl Tryz.prog fn [.c (.p 9000 0)] [PB L s] fun r os=>r = .c (.sl x.length (x.flatMap Expr.row) none)/\os=[PB L s']
theorem iY (L:List Tok) (hL:L.length<=1048576) (hT:∀t∈L,t.text.size<=1048576) {f:Nat->PM Expr} (hf1:mc L 172 [vi 1] (f 1)):GU L 128 (du L f):=by
 intro s x s' h ha
 unfold du at h
 refine ah ab false Tryz.func128 rfl (by kernel_rfl) ?_
 simp only[Tryz.f128,tt,seval]
 refine cS (aV L hL hT s 6 (by omega) (by omega) ha) ?_ ?_<;>simp only[tt,seval,PB]
 cases c6:ap L s 6 with
 |true=>
  rw[if_pos c6] at h
  split at h
  ·cases h
  rename_i e s1 he
  injection h with h;injection h with h1 h2;subst h1 h2
  simp only[tt,seval,gC]
  obtain⟨k1,p1,n1,v1,q1,m1,ks1,ss1⟩:=e
  have c1:=hf1 _ _ _ he (aR (ao c6))
  rw[ae] at c1
  refine cS (c1) ?_ ?_<;>simp only[tt,seval,PB]
  refine⟨.c (.sl [(Expr.mk k1 p1 n1 v1 q1 m1 ks1 ss1)].length ([(Expr.mk k1 p1 n1 v1 q1 m1 ks1 ss1)].flatMap Expr.row) none),[PB L s1],⟨rfl,rfl⟩,ai ?_⟩
  simp only[tt,seval,PB,ae]
 |false=>
  rw[if_neg (by rw[c6];simp)] at h
  injection h with h;injection h with h1 h2;subst h1 h2
  simp only[tt,seval,fY]
  refine⟨.c (.sl ([]:List Expr).length (([]:List Expr).flatMap Expr.row) none),[PB L s],⟨rfl,rfl⟩,ai ?_⟩
  simp only[tt,seval,PB]
theorem CF {L:List Tok} {s:PS} (h:ap L s 9=true):ap L s 10=false:=by
 unfold ap iA at h ⊢
 cases ht:gj L s 0 with
 |none=>rfl
 |some t=>
  rw[ht] at h
  simp only[Bool.and_eq_true,decide_eq_true_eq] at h
  simp only[h.1,h.2]
  decide +kernel
theorem mM (L:List Tok) (hL:L.length<=1048576) (hT:∀t∈L,t.text.size<=1048576) {f:Nat->PM Expr} (ok:∀lv,OkM (L:=L) (f lv)) (hf1:mc L 172 [vi 1] (f 1)) (s:PS) (x:SortKey) (s':PS) (h:fe L f s=some (x,s')) (ha:s.a<=L.length):Cl Tryz.prog 232 [.c (.p 9000 0)] [PB L s] fun r os=>r = .ag (ar x.row)/\os=[PB L s']:=by
 unfold fe at h
 split at h
 ·cases h
 rename_i e s1 he
 have ha1:=(ok 1 _ _ _ he).2.1 ha
 obtain⟨k1,p1,n1,v1,q1,m1,ks1,ss1⟩:=e
 have c1:=hf1 _ _ _ he ha
 rw[ae] at c1
 refine ah ab false Tryz.func232 rfl (by kernel_rfl) ?_
 simp only[Tryz.f232,tt,seval]
 refine cS (c1) ?_ ?_<;>simp only[tt,seval,PB]
 cases c9:ap L s1 9 with
 |true=>
  have c10:=CF c9
  rw[if_pos c9] at h
  injection h with h;injection h with h1 h2;subst h1 h2
  refine cS (aV L hL hT s1 10 (by omega) (by omega) ha1) ?_ ?_<;>simp only[tt,seval,PB]
  simp only[tt,seval,c10,fY]
  refine cS (aV L hL hT s1 9 (by omega) (by omega) ha1) ?_ ?_<;>simp only[tt,seval,PB]
  simp only[seval,c9,gC]
  refine⟨.ag (ar (SortKey.mk (Expr.mk k1 p1 n1 v1 q1 m1 ks1 ss1) false).row),[PB L (adv s1)],⟨rfl,rfl⟩,ai ?_⟩
  simp only[tt,seval,PB,ae,SortKey.row_mk]
 |false=>
  rw[if_neg (by rw[c9];simp)] at h
  injection h with h;injection h with h1 h2;subst h1 h2
  refine cS (aV L hL hT s1 10 (by omega) (by omega) ha1) ?_ ?_<;>simp only[tt,seval,PB]
  cases c10:ap L s1 10 with
  |true=>
   simp only[tt,seval,gC]
   refine⟨.ag (ar (SortKey.mk (Expr.mk k1 p1 n1 v1 q1 m1 ks1 ss1) true).row),[PB L (adv s1)],⟨rfl,rfl⟩,ai ?_⟩
   simp only[tt,seval,PB,ae,SortKey.row_mk]
  |false=>
   simp only[tt,seval,fY]
   refine cS (aV L hL hT s1 9 (by omega) (by omega) ha1) ?_ ?_<;>simp only[tt,seval,PB]
   simp only[seval,c9,fY]
   refine⟨.ag (ar (SortKey.mk (Expr.mk k1 p1 n1 v1 q1 m1 ks1 ss1) false).row),[PB L s1],⟨rfl,rfl⟩,ai ?_⟩
   simp only[tt,seval,PB,ae,SortKey.row_mk]
theorem iZ (L:List Tok) (s:PS):dG L s=(jz L s 2&&(decide ((oX L s 1).kind=5)&&decide ((oX L s 1).text=⟨#[46]⟩)&&(decide ((oX L s 2).kind=5)&&decide ((oX L s 2).text=⟨#[42]⟩)))):=by
 rw[Al L s 1 5 _ (by decide),Al L s 2 5 _ (by decide)];rfl
set_option maxHeartbeats 2000000 in
theorem mN (L:List Tok) (hL:L.length<=1048576) (hT:∀t∈L,t.text.size<=1048576) {f:Nat->PM Expr} (ok:∀lv,OkM (L:=L) (f lv)) (hf1:mc L 172 [vi 1] (f 1)) (s:PS) (x:Item) (s':PS) (h:fc L f s=some (x,s')) (ha:s.a<=L.length):Cl Tryz.prog 230 [.c (.p 9000 0)] [PB L s] fun r os=>r = .ag (ar x.row)/\os=[PB L s']:=by
 unfold fc at h
 refine ah ab false Tryz.func230 rfl (by kernel_rfl) ?_
 simp only[Tryz.f230,tt,seval]
 refine cS (fN L hL hT s 1 (by omega) ha) ?_ ?_<;>simp only[tt,seval,PB,Tok.row]
 refine cS (fN L hL hT s 2 (by omega) ha) ?_ ?_<;>simp only[tt,seval,PB,Tok.row]
 refine cS (bu L hL hT s 42 ha) ?_ ?_<;>simp only[tt,seval,PB]
 cases c42:aN L s 42 with
 |true=>
  rw[if_pos c42] at h
  injection h with h;injection h with h1 h2;subst h1 h2
  simp only[tt,seval]
  refine cS (aI L hL hT s true (fun _=>ax c42)) ?_ ?_<;>simp only[tt,seval,PB,sI]
  refine⟨.ag (ar (Item.mk true z0 zExpr z0).row),[PB L (adv s)],⟨rfl,rfl⟩,ai ?_⟩
  simp only[tt,seval,dm,PB,zExpr,bC,z0,ae,Item.row_mk]
 |false=>
 rw[if_neg (by rw[c42];simp)] at h
 simp only[tt,seval]
 refine cS (jg L hL hT s 2 (by omega) ha) ?_ ?_<;>simp only[tt,seval,PB]
 refine aa (fun hK=>?_) (fun hK=>?_)
 ·simp only[tt,seval,hK]
  refine aa (fun g0=>?_) (fun g0=>?_)
  ·simp only[tt,seval,g0]
   refine aa (fun g1=>?_) (fun g1=>?_)
   ·simp only[tt,seval,g1]
    refine aa (fun g2=>?_) (fun g2=>?_)
    ·simp only[tt,seval,g2]
     refine aa (fun g3=>?_) (fun g3=>?_)
     ·simp only[tt,seval,g3]
      have hst:dG L s=true:=by rw[iZ,hK,g0,g1,g2,g3];rfl
      rw[if_pos hst] at h
      injection h with h;injection h with h1 h2;subst h1 h2
      have l3:=(pJ hst).2
      have l1:=gu hK
      have ha1:=aR (L:=L) l1
      refine cS (cT L hL hT s 2 (by omega) ha) ?_ ?_<;>simp only[tt,seval,PB]
      rw[jI hK]
      simp only[seval]
      refine cS (aI L hL hT (adv s) true (fun _=>⟨l1.1,by show s.a+1<L.length;omega⟩)) ?_ ?_<;>simp only[tt,seval,PB,sI]
      refine cS (aI L hL hT (adv (adv s)) true (fun _=>⟨l1.1,by show s.a+1+1<L.length;omega⟩)) ?_ ?_<;>simp only[tt,seval,PB,sI]
      refine⟨.ag (ar (Item.mk true (bG L s) zExpr z0).row),[PB L (adv (adv (adv s)))],⟨rfl,rfl⟩,ai ?_⟩
      simp only[tt,seval,dm,PB,zExpr,bC,z0,ae,Item.row_mk]
     ·simp only[tt,seval,g3]
      have hsf:dG L s=false:=by first|(rw[iZ,g3];simp only[Bool.false_and,Bool.and_false])|(rw[iZ,au g3];simp only[Bool.and_false])
      rw[if_neg (by rw[hsf];simp)] at h
      split at h
      ·cases h
      rename_i e s1 he
      injection h with h;injection h with h1 h2;subst h1 h2
      have ha1:=(ok 1 _ _ _ he).2.1 ha
      obtain⟨k1,p1,n1,v1,q1,m1,ks1,ss1⟩:=e
      have c1:=hf1 _ _ _ he ha
      rw[ae] at c1
      refine cS (c1) ?_ ?_<;>simp only[tt,seval,PB]
      apply bx 2
      case h1=>
       refine dDrawn.intro [50] (.take 1 (.br 0 (.br 2 (.take 3 (.br 4 .done .nobr)) .nobr) (.br 2 (.take 0 (.take 3 (.br 4 .done .nobr))) .nobr))) (by kernel_rfl) ?_
       simp only[tt,seval]
       all_goals repeat' first|refine cj ?_ ?_|refine aO ?_ ?_
       all_goals
        refine cS (la L hL hT s1 ha1) ?_ ?_
        ·simp only[tt,seval,PB]
         decide
        simp only[tt,seval,PB]
       all_goals exact⟨rfl,rfl,rfl⟩
      case h2=>
       intro f' hj0
       simp only[tt,seval,hj0]
       refine⟨.ag (ar (Item.mk false z0 (Expr.mk k1 p1 n1 v1 q1 m1 ks1 ss1) (asM L s1).1).row),[PB L (asM L s1).2],⟨rfl,rfl⟩,ai ?_⟩
       simp only[tt,seval,dm,PB,z0,ae,Item.row_mk]
    ·simp only[tt,seval,g2]
     have hsf:dG L s=false:=by first|(rw[iZ,g2];simp only[Bool.false_and,Bool.and_false])|(rw[iZ,au g2];simp only[Bool.false_and,Bool.and_false])
     rw[if_neg (by rw[hsf];simp)] at h
     split at h
     ·cases h
     rename_i e s1 he
     injection h with h;injection h with h1 h2;subst h1 h2
     have ha1:=(ok 1 _ _ _ he).2.1 ha
     obtain⟨k1,p1,n1,v1,q1,m1,ks1,ss1⟩:=e
     have c1:=hf1 _ _ _ he ha
     rw[ae] at c1
     refine cS (c1) ?_ ?_<;>simp only[tt,seval,PB]
     apply bx 2
     case h1=>
      refine dDrawn.intro [50] (.take 1 (.br 0 (.br 2 (.take 3 (.br 4 .done .nobr)) .nobr) (.br 2 (.take 0 (.take 3 (.br 4 .done .nobr))) .nobr))) (by kernel_rfl) ?_
      simp only[tt,seval]
      all_goals repeat' first|refine cj ?_ ?_|refine aO ?_ ?_
      all_goals
       refine cS (la L hL hT s1 ha1) ?_ ?_
       ·simp only[tt,seval,PB]
        decide
       simp only[tt,seval,PB]
      all_goals exact⟨rfl,rfl,rfl⟩
     case h2=>
      intro f' hj0
      simp only[tt,seval,hj0]
      refine⟨.ag (ar (Item.mk false z0 (Expr.mk k1 p1 n1 v1 q1 m1 ks1 ss1) (asM L s1).1).row),[PB L (asM L s1).2],⟨rfl,rfl⟩,ai ?_⟩
      simp only[tt,seval,dm,PB,z0,ae,Item.row_mk]
   ·simp only[tt,seval,g1]
    have hsf:dG L s=false:=by first|(rw[iZ,g1];simp only[Bool.false_and,Bool.and_false])|(rw[iZ,au g1];simp only[Bool.false_and,Bool.and_false])
    rw[if_neg (by rw[hsf];simp)] at h
    split at h
    ·cases h
    rename_i e s1 he
    injection h with h;injection h with h1 h2;subst h1 h2
    have ha1:=(ok 1 _ _ _ he).2.1 ha
    obtain⟨k1,p1,n1,v1,q1,m1,ks1,ss1⟩:=e
    have c1:=hf1 _ _ _ he ha
    rw[ae] at c1
    refine cS (c1) ?_ ?_<;>simp only[tt,seval,PB]
    apply bx 2
    case h1=>
     refine dDrawn.intro [50] (.take 1 (.br 0 (.br 2 (.take 3 (.br 4 .done .nobr)) .nobr) (.br 2 (.take 0 (.take 3 (.br 4 .done .nobr))) .nobr))) (by kernel_rfl) ?_
     simp only[tt,seval]
     all_goals repeat' first|refine cj ?_ ?_|refine aO ?_ ?_
     all_goals
      refine cS (la L hL hT s1 ha1) ?_ ?_
      ·simp only[tt,seval,PB]
       decide
      simp only[tt,seval,PB]
     all_goals exact⟨rfl,rfl,rfl⟩
    case h2=>
     intro f' hj0
     simp only[tt,seval,hj0]
     refine⟨.ag (ar (Item.mk false z0 (Expr.mk k1 p1 n1 v1 q1 m1 ks1 ss1) (asM L s1).1).row),[PB L (asM L s1).2],⟨rfl,rfl⟩,ai ?_⟩
     simp only[tt,seval,dm,PB,z0,ae,Item.row_mk]
  ·simp only[tt,seval,g0]
   have hsf:dG L s=false:=by first|(rw[iZ,g0];simp only[Bool.false_and,Bool.and_false])|(rw[iZ,au g0];simp only[Bool.false_and,Bool.and_false])
   rw[if_neg (by rw[hsf];simp)] at h
   split at h
   ·cases h
   rename_i e s1 he
   injection h with h;injection h with h1 h2;subst h1 h2
   have ha1:=(ok 1 _ _ _ he).2.1 ha
   obtain⟨k1,p1,n1,v1,q1,m1,ks1,ss1⟩:=e
   have c1:=hf1 _ _ _ he ha
   rw[ae] at c1
   refine cS (c1) ?_ ?_<;>simp only[tt,seval,PB]
   apply bx 2
   case h1=>
    refine dDrawn.intro [50] (.take 1 (.br 0 (.br 2 (.take 3 (.br 4 .done .nobr)) .nobr) (.br 2 (.take 0 (.take 3 (.br 4 .done .nobr))) .nobr))) (by kernel_rfl) ?_
    simp only[tt,seval]
    all_goals repeat' first|refine cj ?_ ?_|refine aO ?_ ?_
    all_goals
     refine cS (la L hL hT s1 ha1) ?_ ?_
     ·simp only[tt,seval,PB]
      decide
     simp only[tt,seval,PB]
    all_goals exact⟨rfl,rfl,rfl⟩
   case h2=>
    intro f' hj0
    simp only[tt,seval,hj0]
    refine⟨.ag (ar (Item.mk false z0 (Expr.mk k1 p1 n1 v1 q1 m1 ks1 ss1) (asM L s1).1).row),[PB L (asM L s1).2],⟨rfl,rfl⟩,ai ?_⟩
    simp only[tt,seval,dm,PB,z0,ae,Item.row_mk]
 ·simp only[tt,seval,hK]
  have hsf:dG L s=false:=by rw[iZ,hK];rfl
  rw[if_neg (by rw[hsf];simp)] at h
  split at h
  ·cases h
  rename_i e s1 he
  injection h with h;injection h with h1 h2;subst h1 h2
  have ha1:=(ok 1 _ _ _ he).2.1 ha
  obtain⟨k1,p1,n1,v1,q1,m1,ks1,ss1⟩:=e
  have c1:=hf1 _ _ _ he ha
  rw[ae] at c1
  refine cS (c1) ?_ ?_<;>simp only[tt,seval,PB]
  apply bx 2
  case h1=>
   refine dDrawn.intro [50] (.take 1 (.br 0 (.br 2 (.take 3 (.br 4 .done .nobr)) .nobr) (.br 2 (.take 0 (.take 3 (.br 4 .done .nobr))) .nobr))) (by kernel_rfl) ?_
   simp only[tt,seval]
   all_goals repeat' first|refine cj ?_ ?_|refine aO ?_ ?_
   all_goals
    refine cS (la L hL hT s1 ha1) ?_ ?_
    ·simp only[tt,seval,PB]
     decide
    simp only[tt,seval,PB]
   all_goals exact⟨rfl,rfl,rfl⟩
  case h2=>
   intro f' hj0
   simp only[tt,seval,hj0]
   refine⟨.ag (ar (Item.mk false z0 (Expr.mk k1 p1 n1 v1 q1 m1 ks1 ss1) (asM L s1).1).row),[PB L (asM L s1).2],⟨rfl,rfl⟩,ai ?_⟩
   simp only[tt,seval,dm,PB,z0,ae,Item.row_mk]
theorem uu (L:List Tok) (hL:L.length<=1048576) (hT:∀t∈L,t.text.size<=1048576) (s:PS) (ha:s.a<=L.length):Cl Tryz.prog 56 [.c (.p 9000 0)] [PB L s] fun r os=>r=vi (fM L s)/\os=[PB L s]:=by
 refine ah ab false Tryz.func56 rfl (by kernel_rfl) ?_
 simp only[Tryz.f56,tt,seval]
 simp only[tt,seval,PB]
 cases hb:s.b with
 |true=>
  have e:fM L s=s.a:=if_neg (by rw[hb];simp)
  rw[e]
  refine dDrawn.intro [] (iO [0,2,4,6,8,10,12,14,16,18,20,22,24,26,28,30,32]) (by kernel_rfl) ?_
  simp only[tt,seval]
  exact⟨_,_,⟨rfl,rfl⟩,ai (by simp only[tt,seval])⟩
 |false=>
  refine dDrawn.intro [] (iO [0,2,4,6,8,10,12,14,16,18,20,22,24,26,28,30,32]) (by kernel_rfl) ?_
  simp only[tt,seval]
  refine fun _=>aa (fun he=>?_) (fun he=>?_)
  ·have e:fM L s = -1:=if_pos ⟨hb,by omega⟩
   rw[e]
   exact⟨_,_,⟨rfl,rfl⟩,ai (by simp only[tt,seval])⟩
  ·have e:fM L s=s.a:=if_neg (by omega)
   rw[e]
   exact⟨_,_,⟨rfl,rfl⟩,ai (by simp only[tt,seval])⟩
theorem uv {L:List Tok} (hL:L.length<=1048576) (hT:∀t∈L,t.text.size<=1048576) (s:PS) (k:Int):(mText L k s).1.size<=1048576:=by
 unfold mText
 split
 ·exact jH hL hT s
 ·exact Nat.zero_le _
set_option maxHeartbeats 16000000 in
theorem qY (L:List Tok) (hL:L.length<=1048576) (hT:∀t∈L,t.text.size<=1048576) {f:Nat->PM Expr} (ok:∀lv,OkM (L:=L) (f lv)) (hf1:mc L 172 [vi 1] (f 1)):Am L 129 (stepQ L f):=by
 intro s x s' h ha
 unfold stepQ at h
 simp only at h
 refine ah ab false Tryz.func129 rfl (by kernel_rfl) ?_
 simp only[Tryz.f129,tt,seval]
 refine cS (cW L hL hT s 1 (by omega) (by omega) ha) ?_ ?_<;>simp (config:={ maxSteps:=4000000 }) only[tt,seval,PB]
 refine cS (aI L hL hT s (ap L s 1) (fun h=>ao h)) ?_ ?_<;>simp (config:={ maxSteps:=4000000 }) only[tt,seval,PB]
 have o1:Ok L s (must (ap L s 1) s):=Ok.must fun h=>ao h
 have ha1:=o1.2.1 ha
 generalize must (ap L s 1) s=u1 at *
 refine cS (aV L hL hT u1 2 (by omega) (by omega) ha1) ?_ ?_<;>simp (config:={ maxSteps:=4000000 }) only[tt,seval,PB]
 have o2:Ok L u1 (tkIf (ap L u1 2) u1):=Ok.tkIf fun h=>ao h
 have ha2:=o2.2.1 ha1
 generalize tkIf (ap L u1 2) u1=u2 at *
 generalize ap L u1 2=dist at *
 split at h
 ·cases h
 rename_i its u3 hits
 unfold eX at hits
 split at hits
 ·cases hits
 rename_i it1 v1 hit1
 have c1:=mN L hL hT ok hf1 _ _ _ hit1 ha2
 obtain⟨star1,qual1,⟨k1,p1,n1,w1,q1,m1,ks1,ss1⟩,as1⟩:=it1
 rw[Item.row_mk,ae] at c1
 have hav1:=(OkM.item ok _ _ _ hit1).2.1 ha2
 apply dx 0 2 3
 case h1=>
  refine dDrawn.intro [16] (.take 0 (.take 2 (.br 1 (.br 3 (.br 4 (.br 5 (.take 6 (.br 7 .done .nobr)) .nobr) .nobr) .nobr) (.br 3 (.take 1 (.br 4 (.br 5 (.take 6 (.br 7 .done .nobr)) .nobr) .nobr)) .nobr)))) (by kernel_rfl) ?_
  simp (config:={ maxSteps:=4000000 }) only[tt,seval]
  all_goals repeat' first|refine cj ?_ ?_|refine aO ?_ ?_
  all_goals
   refine cS (c1) ?_ ?_
   ·simp (config:={ maxSteps:=4000000 }) only[tt,seval,PB]
    decide
   simp (config:={ maxSteps:=4000000 }) only[tt,seval,PB]
  all_goals repeat' first|refine gE ?_ ?_|refine cK ?_ ?_|refine cL ?_ ?_
  all_goals
   refine⟨by kernel_rfl,⟨by simp only[maxLen];omega,by omega⟩,?_⟩
  all_goals exact⟨rfl,rfl,rfl,rfl,rfl⟩
 case h2=>
  intro f' hj0 hj1 hj2
  simp (config:={ maxSteps:=4000000 }) only[tt,seval]
  refine dLoop.gh [.ren 18 29] ⟨by decide,by decide,?_⟩
  refine dLoop0.intro (fun f' Lo p=>∃(m:List Item) (v:PS) (n:Nat),dt L (fc L f) n m v=some (its,u3)/\v.a<=L.length/\m.length<=v.a+1/\Lo=[(9000,.str (PB L v)),(3,.str [.v (.bool dist),.s 29 (m).length,.v (.slice none 0 0),.v (.slice none 0 0),.v (.slice none 0 0),.v (.int .i64 (-1))]),(29,.arr 105 (m).length ((m).flatMap Item.row) none),(2,.str [.v (.bool false),.v (.slice none 0 0),.v (.slice none 0 0),.v (.slice none 0 0),.v (.slice none 0 0),.v (.int .i64 0)])]/\p=none) (fun _ Lo _=>L.length-w5 Lo) [(9000,.str (PB L v1)),(3,.str [.v (.bool dist),.s 29 ([(Item.mk star1 qual1 (Expr.mk k1 p1 n1 w1 q1 m1 ks1 ss1) as1)]).length,.v (.slice none 0 0),.v (.slice none 0 0),.v (.slice none 0 0),.v (.int .i64 (-1))]),(29,.arr 105 ([(Item.mk star1 qual1 (Expr.mk k1 p1 n1 w1 q1 m1 ks1 ss1) as1)]).length (([(Item.mk star1 qual1 (Expr.mk k1 p1 n1 w1 q1 m1 ks1 ss1) as1)]).flatMap Item.row) none),(2,.str [.v (.bool false),.v (.slice none 0 0),.v (.slice none 0 0),.v (.slice none 0 0),.v (.slice none 0 0),.v (.int .i64 0)])] none ⟨by simp only[PB,ae,List.flatMap_nil,List.flatMap_cons,List.append_nil,List.length_nil,List.length_cons,Item.row_mk,lc];exact ac rfl (ac rfl (ac rfl (ac rfl (al _)))),an _,?_⟩ ?_
  ·simp (config:={ maxSteps:=4000000 }) only[tt,seval]
   exact⟨[(Item.mk star1 qual1 (Expr.mk k1 p1 n1 w1 q1 m1 ks1 ss1) as1)],v1,L.length+1,hits,hav1,by simp,rfl⟩
  ·rintro g' Lo p ⟨m,v,n,hm,hv,hml,rfl,rfl⟩
   simp (config:={ maxSteps:=4000000 }) only[tt,seval,hj0]
   refine cS (bu L hL hT v 44 hv) ?_ ?_<;>simp (config:={ maxSteps:=4000000 }) only[tt,seval,PB,hj0]
   cases n with
   |zero=>cases hm
   |succ n=>
   rw[dt] at hm
   cases c44:aN L v 44 with
   |true=>
    rw[if_pos c44] at hm
    split at hm
    ·cases hm
    rename_i z w hz
    obtain⟨hb,hlt⟩:=ax c44
    have hav:=aR (L:=L) (ax c44)
    have o3:=OkM.item ok _ _ _ hz
    have o3a:v.a+1<=w.a:=o3.1
    have hw:=o3.2.1 hav
    have c2:=mN L hL hT ok hf1 _ _ _ hz hav
    obtain⟨star2,qual2,⟨k2,p2,n2,w2,q2,m2,ks2,ss2⟩,as2⟩:=z
    rw[Item.row_mk,ae] at c2
    simp (config:={ maxSteps:=4000000 }) only[tt,seval]
    refine cS (aI L hL hT v true (fun _=>ax c44)) ?_ ?_<;>simp (config:={ maxSteps:=4000000 }) only[tt,seval,PB,sI]
    apply bx 3
    case h1=>
     refine dDrawn.intro [27] (.take 0 (.take 2 (.br 1 (.br 3 (.br 4 (.br 5 (.take 6 (.br 7 .done .nobr)) .nobr) .nobr) .nobr) (.br 3 (.take 1 (.br 4 (.br 5 (.take 6 (.br 7 .done .nobr)) .nobr) .nobr)) .nobr)))) (by kernel_rfl) ?_
     simp (config:={ maxSteps:=4000000 }) only[tt,seval]
     all_goals try simp (config:={ maxSteps:=4000000 }) only[tt,seval,hj0,hj2]
     all_goals repeat' first|refine cj ?_ ?_|refine aO ?_ ?_
     all_goals
      refine cS (c2) ?_ ?_
      ·simp (config:={ maxSteps:=4000000 }) only[tt,seval,PB]
       decide
      simp (config:={ maxSteps:=4000000 }) only[tt,seval,PB,hj2]
     all_goals repeat' first|refine gE ?_ ?_|refine cK ?_ ?_|refine cL ?_ ?_
     all_goals
      refine⟨by kernel_rfl,⟨by simp only[maxLen];omega,by omega⟩,?_⟩
     all_goals exact⟨rfl,rfl,rfl⟩
    case h2=>
     intro f' hk0
     refine⟨[(9000,.str (PB L w)),(3,.str [.v (.bool dist),.s 29 ((m++[(Item.mk star2 qual2 (Expr.mk k2 p2 n2 w2 q2 m2 ks2 ss2) as2)])).length,.v (.slice none 0 0),.v (.slice none 0 0),.v (.slice none 0 0),.v (.int .i64 (-1))]),(29,.arr 105 ((m++[(Item.mk star2 qual2 (Expr.mk k2 p2 n2 w2 q2 m2 ks2 ss2) as2)])).length (((m++[(Item.mk star2 qual2 (Expr.mk k2 p2 n2 w2 q2 m2 ks2 ss2) as2)])).flatMap Item.row) none),(2,.str [.v (.bool false),.v (.slice none 0 0),.v (.slice none 0 0),.v (.slice none 0 0),.v (.slice none 0 0),.v (.int .i64 0)])],none,by simp only[PB,ae,List.flatMap_nil,List.flatMap_cons,List.append_nil,List.length_nil,List.length_cons,Item.row_mk,lc,List.flatMap_append,aB];exact ac rfl (ac rfl (ac rfl (ac rfl (al _)))),an _,⟨m++[(Item.mk star2 qual2 (Expr.mk k2 p2 n2 w2 q2 m2 ks2 ss2) as2)],w,n,hm,hw,by simp;omega,rfl,rfl⟩,?_⟩
     show L.length-((w.a:Int)).toNat<L.length-((v.a:Int)).toNat
     omega
   |false=>
    rw[if_neg (by rw[c44];simp)] at hm
    injection hm with hm;injection hm with e1 e2;subst e1 e2
    simp (config:={ maxSteps:=4000000 }) only[tt,seval]
    refine cS (cW L hL hT v 3 (by omega) (by omega) hv) ?_ ?_<;>simp (config:={ maxSteps:=4000000 }) only[tt,seval,PB]
    refine cS (aI L hL hT v (ap L v 3) (fun h=>ao h)) ?_ ?_<;>simp (config:={ maxSteps:=4000000 }) only[tt,seval,PB]
    have o4:Ok L v (must (ap L v 3) v):=Ok.must fun h=>ao h
    have ha4:=o4.2.1 hv
    generalize must (ap L v 3) v=u4 at *
    have c3:=kr L hL hT u4 ha4
    have ha5:=(Ok.sourceM (L:=L) u4).2.1 ha4
    generalize (sourceM L u4).2=v5 at *
    generalize (sourceM L u4).1=sr1 at *
    obtain⟨tb1,sa1,on1⟩:=sr1
    rw[Source.row_mk] at c3
    apply dx 0 2 3
    case h1=>
     refine dDrawn.intro [38] (.take 0 (.take 2 (.br 1 (.br 3 (.br 4 (.br 5 (.take 6 (.br 7 .done .nobr)) .nobr) .nobr) .nobr) (.br 3 (.take 1 (.br 4 (.br 5 (.take 6 (.br 7 .done .nobr)) .nobr) .nobr)) .nobr)))) (by kernel_rfl) ?_
     simp (config:={ maxSteps:=4000000 }) only[tt,seval]
     all_goals try simp (config:={ maxSteps:=4000000 }) only[tt,seval,hj0,hj2]
     all_goals repeat' first|refine cj ?_ ?_|refine aO ?_ ?_
     all_goals
      refine cS (c3) ?_ ?_
      ·simp (config:={ maxSteps:=4000000 }) only[tt,seval,PB]
       decide
      simp (config:={ maxSteps:=4000000 }) only[tt,seval,PB,hj0,hj1,hj2]
     all_goals repeat' first|refine gE ?_ ?_|refine cK ?_ ?_|refine cL ?_ ?_
     all_goals
      refine⟨by kernel_rfl,⟨by simp only[maxLen];omega,by omega⟩,?_⟩
     all_goals exact⟨rfl,rfl,rfl,rfl,rfl⟩
    case h2=>
     intro f' hi0 hi1 hi2
     simp (config:={ maxSteps:=4000000 }) only[tt,seval]
     split at h
     ·cases h
     rename_i frs s4 hfrs
     refine dLoop.gh [.ren 40 67] ⟨by decide,by decide,?_⟩
     refine dLoop0.intro (fun f' Lo p=>∃(l:List Source) (v:PS) (n:Nat),bR L f n l v=some (frs,s4)/\v.a<=L.length/\l.length<=v.a+1/\Lo=[(9000,.str (PB L v)),(3,.str [.v (.bool dist),.s 29 m.length,.s 67 (l).length,.v (.slice none 0 0),.v (.slice none 0 0),.v (.int .i64 (-1))]),(29,.arr 105 m.length (m.flatMap Item.row) none),(67,.arr 107 (l).length ((l).flatMap Source.row) none),(2,.str [.v (.bool false),.v (.slice none 0 0),.v (.slice none 0 0),.v (.slice none 0 0),.v (.slice none 0 0),.v (.int .i64 0)])]/\p=none) (fun _ Lo _=>L.length-w5 Lo) [(9000,.str (PB L v5)),(3,.str [.v (.bool dist),.s 29 m.length,.s 67 ([(Source.mk tb1 sa1 on1)]).length,.v (.slice none 0 0),.v (.slice none 0 0),.v (.int .i64 (-1))]),(29,.arr 105 m.length (m.flatMap Item.row) none),(67,.arr 107 ([(Source.mk tb1 sa1 on1)]).length (([(Source.mk tb1 sa1 on1)]).flatMap Source.row) none),(2,.str [.v (.bool false),.v (.slice none 0 0),.v (.slice none 0 0),.v (.slice none 0 0),.v (.slice none 0 0),.v (.int .i64 0)])] none ⟨by simp only[PB,List.flatMap_nil,List.flatMap_cons,List.append_nil,List.length_nil,List.length_cons,Source.row_mk];exact ac rfl (ac rfl (ac rfl (ac rfl (ac rfl (al _))))),an _,?_⟩ ?_
     ·simp (config:={ maxSteps:=4000000 }) only[tt,seval]
      exact⟨[(Source.mk tb1 sa1 on1)],v5,L.length+1,hfrs,ha5,by simp,rfl⟩
     ·rintro g2 Lo p ⟨l,v6,n2,hm2,hv6,hml2,rfl,rfl⟩
      simp (config:={ maxSteps:=4000000 }) only[tt,seval,hi0]
      refine cS (bu L hL hT v6 44 hv6) ?_ ?_<;>simp (config:={ maxSteps:=4000000 }) only[tt,seval,PB]
      cases n2 with
      |zero=>cases hm2
      |succ n2=>
      rw[bR] at hm2
      cases c44:aN L v6 44 with
      |true=>
       have k4:ap L v6 4=false:=by
        cases e:ap L v6 4 with
        |false=>rfl
        |true=>have:=pL (c:=44) e;rw[c44] at this;cases this
       rw[if_pos c44] at hm2
       have hav:=aR (L:=L) (ax c44)
       have hlt:=(ax c44).2
       have c4:=kr L hL hT (adv v6) hav
       have o6:=Ok.sourceM (L:=L) (adv v6)
       have o6a:v6.a+1<=(sourceM L (adv v6)).2.a:=o6.1
       have hw:=o6.2.1 hav
       generalize (sourceM L (adv v6)).2=w6 at *
       generalize (sourceM L (adv v6)).1=sr2 at *
       obtain⟨tb2,sa2,on2⟩:=sr2
       rw[Source.row_mk] at c4
       refine aa (fun _=>?_) (fun hx=>by cases hx)
       simp (config:={ maxSteps:=4000000 }) only[tt,seval,hi0]
       refine cS (cW L hL hT v6 4 (by omega) (by omega) hv6) ?_ ?_<;>simp (config:={ maxSteps:=4000000 }) only[tt,seval,PB,hi0]
       simp (config:={ maxSteps:=4000000 }) only[seval,k4]
       refine cS (aI L hL hT v6 true (fun _=>ax c44)) ?_ ?_<;>simp (config:={ maxSteps:=4000000 }) only[tt,seval,PB,sI,hi0]
       refine cS (c4) ?_ ?_<;>simp (config:={ maxSteps:=4000000 }) only[tt,seval,PB,hi0,hi2]
       refine⟨by kernel_rfl,⟨by simp only[maxLen];omega,by omega⟩,?_⟩
       refine⟨[(9000,.str (PB L w6)),(3,.str [.v (.bool dist),.s 29 m.length,.s 67 ((l++[Source.mk tb2 sa2 on2])).length,.v (.slice none 0 0),.v (.slice none 0 0),.v (.int .i64 (-1))]),(29,.arr 105 m.length (m.flatMap Item.row) none),(67,.arr 107 ((l++[Source.mk tb2 sa2 on2])).length (((l++[Source.mk tb2 sa2 on2])).flatMap Source.row) none),(2,.str [.v (.bool false),.v (.slice none 0 0),.v (.slice none 0 0),.v (.slice none 0 0),.v (.slice none 0 0),.v (.int .i64 0)])],none,by simp only[PB,List.flatMap_nil,List.flatMap_cons,List.append_nil,List.length_nil,List.length_cons,Source.row_mk,List.flatMap_append,aB];exact ac rfl (ac rfl (ac rfl (ac rfl (ac rfl (al _))))),an _,⟨l++[Source.mk tb2 sa2 on2],w6,n2,hm2,hw,by simp;omega,rfl,rfl⟩,?_⟩
       show L.length-((w6.a:Int)).toNat<L.length-((v6.a:Int)).toNat
       omega
      |false=>
       rw[if_neg (by rw[c44];simp)] at hm2
       refine aa (fun hx=>by cases hx) (fun _=>?_)
       simp (config:={ maxSteps:=4000000 }) only[tt,seval,hi0]
       refine cS (cW L hL hT v6 4 (by omega) (by omega) hv6) ?_ ?_<;>simp (config:={ maxSteps:=4000000 }) only[tt,seval,PB,hi0]
       cases k4:ap L v6 4 with
       |true=>
        rw[if_pos k4] at hm2
        simp only at hm2
        split at hm2
        ·cases hm2
        rename_i e7 s7 he7
        have hav:=aR (L:=L) (ao k4)
        have hlt:=(ao k4).2
        have c4:=kr L hL hT (adv v6) hav
        have o6:=Ok.sourceM (L:=L) (adv v6)
        have o6a:v6.a+1<=(sourceM L (adv v6)).2.a:=o6.1
        have hw:=o6.2.1 hav
        generalize (sourceM L (adv v6)).2=w6 at *
        generalize (sourceM L (adv v6)).1=sr2 at *
        obtain⟨tb2,sa2,on2⟩:=sr2
        rw[Source.row_mk] at c4
        simp (config:={ maxSteps:=4000000 }) only[tt,seval]
        refine cS (cW L hL hT v6 4 (by omega) (by omega) hv6) ?_ ?_<;>simp (config:={ maxSteps:=4000000 }) only[tt,seval,PB,hi0]
        simp (config:={ maxSteps:=4000000 }) only[seval,k4]
        refine cS (aI L hL hT v6 true (fun _=>ao k4)) ?_ ?_<;>simp (config:={ maxSteps:=4000000 }) only[tt,seval,PB,sI,hi0]
        refine cS (c4) ?_ ?_<;>simp (config:={ maxSteps:=4000000 }) only[tt,seval,PB,hi0,hi2]
        refine cS (cW L hL hT w6 5 (by omega) (by omega) hw) ?_ ?_<;>simp (config:={ maxSteps:=4000000 }) only[tt,seval,PB]
        refine cS (aI L hL hT w6 (ap L w6 5) (fun h=>ao h)) ?_ ?_<;>simp (config:={ maxSteps:=4000000 }) only[tt,seval,PB,hi0]
        have o7:Ok L w6 (must (ap L w6 5) w6):=Ok.must fun h=>ao h
        have o7a:=o7.1
        have hw7:=o7.2.1 hw
        generalize must (ap L w6 5) w6=w7 at *
        have o8:=ok 1 _ _ _ he7
        have o8a:=o8.1
        have hs7:=o8.2.1 hw7
        obtain⟨k7,p7,n7,x7,q7,m7,ks7,ss7⟩:=e7
        have c7:=hf1 _ _ _ he7 hw7
        rw[ae] at c7
        refine cS (c7) ?_ ?_<;>simp (config:={ maxSteps:=4000000 }) only[tt,seval,PB,hi2]
        refine⟨by kernel_rfl,⟨by simp only[maxLen];omega,by omega⟩,?_⟩
        refine⟨[(9000,.str (PB L s7)),(3,.str [.v (.bool dist),.s 29 m.length,.s 67 ((l++[Source.mk tb2 sa2 [Expr.mk k7 p7 n7 x7 q7 m7 ks7 ss7]])).length,.v (.slice none 0 0),.v (.slice none 0 0),.v (.int .i64 (-1))]),(29,.arr 105 m.length (m.flatMap Item.row) none),(67,.arr 107 ((l++[Source.mk tb2 sa2 [Expr.mk k7 p7 n7 x7 q7 m7 ks7 ss7]])).length (((l++[Source.mk tb2 sa2 [Expr.mk k7 p7 n7 x7 q7 m7 ks7 ss7]])).flatMap Source.row) none),(2,.str [.v (.bool false),.v (.slice none 0 0),.v (.slice none 0 0),.v (.slice none 0 0),.v (.slice none 0 0),.v (.int .i64 0)])],none,by simp only[PB,ae,List.flatMap_nil,List.flatMap_cons,List.append_nil,List.length_nil,List.length_cons,Source.row_mk,List.flatMap_append,aB];exact ac rfl (ac rfl (ac rfl (ac rfl (ac rfl (al _))))),an _,⟨l++[Source.mk tb2 sa2 [Expr.mk k7 p7 n7 x7 q7 m7 ks7 ss7]],s7,n2,hm2,hs7,by simp;omega,rfl,rfl⟩,?_⟩
        show L.length-((s7.a:Int)).toNat<L.length-((v6.a:Int)).toNat
        omega
       |false=>
        rw[if_neg (by rw[k4];simp)] at hm2
        injection hm2 with hm2;injection hm2 with e1 e2;subst e1 e2
        simp (config:={ maxSteps:=4000000 }) only[tt,seval]
        split at h
        ·cases h
        rename_i wh s5 hwh
        have hs5:=(OkM.wher ok _ _ _ hwh).2.1 hv6
        have cw:=iY L hL hT hf1 _ _ _ hwh hv6
        refine cS (cw) ?_ ?_<;>simp (config:={ maxSteps:=4000000 }) only[tt,seval,PB,hi0,hi2]
        refine cS (aV L hL hT s5 7 (by omega) (by omega) hs5) ?_ ?_<;>simp (config:={ maxSteps:=4000000 }) only[tt,seval,PB,hi0]
        split at h
        ·cases h
        rename_i ord s6 hord
        unfold eW at hord
        cases c7:ap L s5 7 with
        |false=>
         rw[if_neg (by rw[c7];simp)] at hord
         injection hord with hord;injection hord with e1 e2;subst e1 e2
         simp (config:={ maxSteps:=4000000 }) only[tt,seval,fY]
         refine cS (aV L hL hT s5 11 (by omega) (by omega) hs5) ?_ ?_<;>simp (config:={ maxSteps:=4000000 }) only[tt,seval,PB,hi0,hi1,hi2]
         cases tZ:ap L s5 11 with
         |true=>
          have hlim:limitM L s5=(jD (mText L 3 (adv s5)).1,(mText L 3 (adv s5)).2):=by rw[limitM,if_pos tZ];rfl
          rw[hlim] at h
          injection h with h;injection h with h1 h2;subst h1 h2
          have hsz:=uv hL hT (adv s5) 3
          simp (config:={ maxSteps:=4000000 }) only[tt,seval,gC]
          refine cS (cT L hL hT (adv s5) 3 (by omega) (aR (ao tZ))) ?_ ?_<;>simp (config:={ maxSteps:=4000000 }) only[tt,seval,PB]
          generalize (mText L 3 (adv s5)).1=xn at *
          generalize (mText L 3 (adv s5)).2=sn at *
          refine cZ (mF xn hsz) ?_ ?_<;>simp (config:={ maxSteps:=4000000 }) only[tt,seval,lC,hi1,hi2]
          refine⟨.ag (ar (Query.mk dist m l wh ([]:List SortKey) (jD xn)).row),[PB L (sn)],⟨rfl,rfl⟩,ai ?_⟩
          simp (config:={ maxSteps:=4000000 }) only[tt,seval,PB,ay,PB]
         |false=>
          have hlim:limitM L s5=(-1,s5):=by rw[limitM,if_neg (by rw[tZ];simp)]
          rw[hlim] at h
          injection h with h;injection h with h1 h2;subst h1 h2
          simp (config:={ maxSteps:=4000000 }) only[tt,seval,fY]
          refine⟨.ag (ar (Query.mk dist m l wh ([]:List SortKey) (-1)).row),[PB L (s5)],⟨rfl,rfl⟩,ai ?_⟩
          simp (config:={ maxSteps:=4000000 }) only[tt,seval,PB,ay,PB]
        |true=>
         rw[if_pos c7] at hord
         simp only at hord
         split at hord
         ·cases hord
         rename_i z1 y1 hz1
         simp (config:={ maxSteps:=4000000 }) only[tt,seval,gC]
         have hav5:=aR (L:=L) (ao c7)
         have hlt5:=(ao c7).2
         refine cS (cW L hL hT (adv s5) 8 (by omega) (by omega) hav5) ?_ ?_<;>simp (config:={ maxSteps:=4000000 }) only[tt,seval,PB]
         refine cS (aI L hL hT (adv s5) (ap L (adv s5) 8) (fun h=>ao h)) ?_ ?_<;>simp (config:={ maxSteps:=4000000 }) only[tt,seval,PB]
         have o9:Ok L (adv s5) (must (ap L (adv s5) 8) (adv s5)):=Ok.must fun h=>ao h
         have hu9:=o9.2.1 hav5
         generalize must (ap L (adv s5) 8) (adv s5)=u9 at *
         have c9:=mM L hL hT ok hf1 _ _ _ hz1 hu9
         have hy1:=(OkM.sort ok _ _ _ hz1).2.1 hu9
         obtain⟨⟨k9,p9,n9,x9,q9,m9,ks9,ss9⟩,de9⟩:=z1
         rw[SortKey.row_mk,ae] at c9
         apply dx 0 2 3
         case h1=>
          refine dDrawn.intro [81] (.take 0 (.take 2 (.br 1 (.br 3 (.br 4 (.br 5 (.take 6 (.br 7 .done .nobr)) .nobr) .nobr) .nobr) (.br 3 (.take 1 (.br 4 (.br 5 (.take 6 (.br 7 .done .nobr)) .nobr) .nobr)) .nobr)))) (by kernel_rfl) ?_
          simp (config:={ maxSteps:=4000000 }) only[tt,seval]
          all_goals try simp (config:={ maxSteps:=4000000 }) only[tt,seval,hi0,hi2]
          all_goals repeat' first|refine cj ?_ ?_|refine aO ?_ ?_
          all_goals
           refine cS (c9) ?_ ?_
           ·simp (config:={ maxSteps:=4000000 }) only[tt,seval,PB]
            decide
           simp (config:={ maxSteps:=4000000 }) only[tt,seval,PB,hi0,hi1,hi2]
          all_goals repeat' first|refine gE ?_ ?_|refine cK ?_ ?_|refine cL ?_ ?_
          all_goals
           refine⟨by kernel_rfl,⟨by simp only[maxLen];omega,by omega⟩,?_⟩
          all_goals exact⟨rfl,rfl,rfl,rfl,rfl⟩
         case h2=>
          intro f' hl0 hl1 hl2
          simp (config:={ maxSteps:=4000000 }) only[tt,seval]
          refine dLoop.gh [.ren 83 94] ⟨by decide,by decide,?_⟩
          refine dLoop0.intro (fun f' Lo p=>∃(l9:List SortKey) (v9:PS) (n9':Nat),dt L (fe L f) n9' l9 v9=some (ord,s6)/\v9.a<=L.length/\l9.length<=v9.a+1/\Lo=[(9000,.str (PB L v9)),(3,.str [.v (.bool dist),.s 29 m.length,.s 67 l.length,.sl wh.length (wh.flatMap Expr.row) none,.s 94 (l9).length,.v (.int .i64 (-1))]),(29,.arr 105 m.length (m.flatMap Item.row) none),(67,.arr 107 l.length (l.flatMap Source.row) none),(94,.arr 109 (l9).length ((l9).flatMap SortKey.row) none),(2,.str [.v (.bool false),.v (.slice none 0 0),.v (.slice none 0 0),.v (.slice none 0 0),.v (.slice none 0 0),.v (.int .i64 0)])]/\p=none) (fun _ Lo _=>L.length-w5 Lo) [(9000,.str (PB L y1)),(3,.str [.v (.bool dist),.s 29 m.length,.s 67 l.length,.sl wh.length (wh.flatMap Expr.row) none,.s 94 ([(SortKey.mk (Expr.mk k9 p9 n9 x9 q9 m9 ks9 ss9) de9)]).length,.v (.int .i64 (-1))]),(29,.arr 105 m.length (m.flatMap Item.row) none),(67,.arr 107 l.length (l.flatMap Source.row) none),(94,.arr 109 ([(SortKey.mk (Expr.mk k9 p9 n9 x9 q9 m9 ks9 ss9) de9)]).length (([(SortKey.mk (Expr.mk k9 p9 n9 x9 q9 m9 ks9 ss9) de9)]).flatMap SortKey.row) none),(2,.str [.v (.bool false),.v (.slice none 0 0),.v (.slice none 0 0),.v (.slice none 0 0),.v (.slice none 0 0),.v (.int .i64 0)])] none ⟨by simp only[PB,ae,List.flatMap_nil,List.flatMap_cons,List.append_nil,List.length_nil,List.length_cons,SortKey.row_mk,lc];exact ac rfl (ac rfl (ac rfl (ac rfl (ac rfl (ac rfl (al _)))))),an _,?_⟩ ?_
          ·simp (config:={ maxSteps:=4000000 }) only[tt,seval]
           exact⟨[(SortKey.mk (Expr.mk k9 p9 n9 x9 q9 m9 ks9 ss9) de9)],y1,L.length+1,hord,hy1,by simp,rfl⟩
          ·rintro g3 Lo p ⟨l9,v9,n9',hm9,hv9,hml9,rfl,rfl⟩
           simp (config:={ maxSteps:=4000000 }) only[tt,seval,hl0]
           refine cS (bu L hL hT v9 44 hv9) ?_ ?_<;>simp (config:={ maxSteps:=4000000 }) only[tt,seval,PB,hl0]
           cases n9' with
           |zero=>cases hm9
           |succ n9'=>
           rw[dt] at hm9
           cases c44:aN L v9 44 with
           |true=>
            rw[if_pos c44] at hm9
            split at hm9
            ·cases hm9
            rename_i za wa hza
            obtain⟨hb9,hlt9⟩:=ax c44
            have hav9:=aR (L:=L) (ax c44)
            have oa:=OkM.sort ok _ _ _ hza
            have oaa:v9.a+1<=wa.a:=oa.1
            have hwa:=oa.2.1 hav9
            have ca:=mM L hL hT ok hf1 _ _ _ hza hav9
            obtain⟨⟨ka,pa,na,xa,qa,ma,ksa,ssa⟩,dea⟩:=za
            rw[SortKey.row_mk,ae] at ca
            simp (config:={ maxSteps:=4000000 }) only[tt,seval]
            refine cS (aI L hL hT v9 true (fun _=>ax c44)) ?_ ?_<;>simp (config:={ maxSteps:=4000000 }) only[tt,seval,PB,sI]
            apply bx 3
            case h1=>
             refine dDrawn.intro [92] (.take 0 (.take 2 (.br 1 (.br 3 (.br 4 (.br 5 (.take 6 (.br 7 .done .nobr)) .nobr) .nobr) .nobr) (.br 3 (.take 1 (.br 4 (.br 5 (.take 6 (.br 7 .done .nobr)) .nobr) .nobr)) .nobr)))) (by kernel_rfl) ?_
             simp (config:={ maxSteps:=4000000 }) only[tt,seval]
             all_goals try simp (config:={ maxSteps:=4000000 }) only[tt,seval,hl0,hl2]
             all_goals repeat' first|refine cj ?_ ?_|refine aO ?_ ?_
             all_goals
              refine cS (ca) ?_ ?_
              ·simp (config:={ maxSteps:=4000000 }) only[tt,seval,PB]
               decide
              simp (config:={ maxSteps:=4000000 }) only[tt,seval,PB,hl2]
             all_goals repeat' first|refine gE ?_ ?_|refine cK ?_ ?_|refine cL ?_ ?_
             all_goals
              refine⟨by kernel_rfl,⟨by simp only[maxLen];omega,by omega⟩,?_⟩
             all_goals exact⟨rfl,rfl,rfl⟩
            case h2=>
             intro f' hn0
             refine⟨[(9000,.str (PB L wa)),(3,.str [.v (.bool dist),.s 29 m.length,.s 67 l.length,.sl wh.length (wh.flatMap Expr.row) none,.s 94 ((l9++[(SortKey.mk (Expr.mk ka pa na xa qa ma ksa ssa) dea)])).length,.v (.int .i64 (-1))]),(29,.arr 105 m.length (m.flatMap Item.row) none),(67,.arr 107 l.length (l.flatMap Source.row) none),(94,.arr 109 ((l9++[(SortKey.mk (Expr.mk ka pa na xa qa ma ksa ssa) dea)])).length (((l9++[(SortKey.mk (Expr.mk ka pa na xa qa ma ksa ssa) dea)])).flatMap SortKey.row) none),(2,.str [.v (.bool false),.v (.slice none 0 0),.v (.slice none 0 0),.v (.slice none 0 0),.v (.slice none 0 0),.v (.int .i64 0)])],none,by simp only[PB,ae,List.flatMap_nil,List.flatMap_cons,List.append_nil,List.length_nil,List.length_cons,SortKey.row_mk,lc,List.flatMap_append,aB];exact ac rfl (ac rfl (ac rfl (ac rfl (ac rfl (ac rfl (al _)))))),an _,⟨l9++[(SortKey.mk (Expr.mk ka pa na xa qa ma ksa ssa) dea)],wa,n9',hm9,hwa,by simp;omega,rfl,rfl⟩,?_⟩
             show L.length-((wa.a:Int)).toNat<L.length-((v9.a:Int)).toNat
             omega
           |false=>
            rw[if_neg (by rw[c44];simp)] at hm9
            injection hm9 with hm9;injection hm9 with e1 e2;subst e1 e2
            simp (config:={ maxSteps:=4000000 }) only[tt,seval]
            refine cS (aV L hL hT v9 11 (by omega) (by omega) hv9) ?_ ?_<;>simp (config:={ maxSteps:=4000000 }) only[tt,seval,PB,hl0,hl1,hl2]
            cases tZ:ap L v9 11 with
            |true=>
             have hlim:limitM L v9=(jD (mText L 3 (adv v9)).1,(mText L 3 (adv v9)).2):=by rw[limitM,if_pos tZ];rfl
             rw[hlim] at h
             injection h with h;injection h with h1 h2;subst h1 h2
             have hsz:=uv hL hT (adv v9) 3
             simp (config:={ maxSteps:=4000000 }) only[tt,seval,gC]
             refine cS (cT L hL hT (adv v9) 3 (by omega) (aR (ao tZ))) ?_ ?_<;>simp (config:={ maxSteps:=4000000 }) only[tt,seval,PB]
             generalize (mText L 3 (adv v9)).1=xn at *
             generalize (mText L 3 (adv v9)).2=sn at *
             refine cZ (mF xn hsz) ?_ ?_<;>simp (config:={ maxSteps:=4000000 }) only[tt,seval,lC,hl1,hl2]
             refine⟨.ag (ar (Query.mk dist m l wh l9 (jD xn)).row),[PB L (sn)],⟨rfl,rfl⟩,ai ?_⟩
             simp (config:={ maxSteps:=4000000 }) only[tt,seval,PB,ay,PB]
            |false=>
             have hlim:limitM L v9=(-1,v9):=by rw[limitM,if_neg (by rw[tZ];simp)]
             rw[hlim] at h
             injection h with h;injection h with h1 h2;subst h1 h2
             simp (config:={ maxSteps:=4000000 }) only[tt,seval,fY]
             refine⟨.ag (ar (Query.mk dist m l wh l9 (-1)).row),[PB L (v9)],⟨rfl,rfl⟩,ai ?_⟩
             simp (config:={ maxSteps:=4000000 }) only[tt,seval,PB,ay,PB]
theorem At (L:List Tok) (hL:L.length<=1048576) (hT:∀t∈L,t.text.size<=1048576):∀k,(∀lv:Nat,1<=lv->lv<=8->mc L 172 [vi lv] ((pP L k).1 lv))/\mc L 267 [] ((pP L k).1 9)/\Am L 129 (pP L k).2
 |0=>⟨fun _ _ _ _ _ _ h=>(by cases h),fun _ _ _ h=>(by cases h),fun _ _ _ h=>(by cases h)⟩
 |k+1=>by
  obtain⟨h1,h2,h3⟩:=At L hL hT k
  obtain⟨ok,okq⟩:=jZ (L:=L) k
  refine⟨fun lv a b=>?_,?_,?_⟩
  ·show mc L _ _ (stepE L (pP L k).1 (pP L k).2 lv)
   by_cases e3:lv=3
   ·subst e3;exact Ao L hL hT ok okq h1 h2 h3
   by_cases e4:lv=4
   ·subst e4;exact Ap L hL hT ok okq h1 h2 h3
   by_cases e8:lv=8
   ·subst e8;exact Aq L hL hT ok okq h1 h2 h3
   ·exact Ar L hL hT ok okq h1 h2 h3 lv (by simp only[List.mem_cons,List.not_mem_nil,or_false];omega)
  ·have e:(pP L (k+1)).1 9=fa L (pP L k).1 (pP L k).2:=rfl
   rw[e]
   exact sJ L hL hT (ok 1) okq (h1 1 (by omega) (by omega)) h3
  ·exact qY L hL hT ok (h1 1 (by omega) (by omega))
theorem rD (L:List Tok) (hL:L.length<=1048576) (hT:∀t∈L,t.text.size<=1048576) (lv:Nat) (h1:1<=lv) (h2:lv<=8):mc L 172 [vi lv] (hD L lv):=(At L hL hT (pD L)).1 lv h1 h2
theorem wb (L:List Tok) (hL:L.length<=1048576) (hT:∀t∈L,t.text.size<=1048576):Am L 129 (iX L):=(At L hL hT (pD L)).2.2
theorem wc (L:List Tok) (hL:L.length<=1048576) (hT:∀t∈L,t.text.size<=1048576):Cl Tryz.prog 83 [.c (.sl L.length (L.flatMap Tok.row) none)] [] fun r _=>r = .tu [(ar (bK L).1.row,false),([.v (.int .i64 (bK L).2)],true)]:=by
 obtain⟨x,s1,hx⟩:=jc (L:=L) 1 (by omega) (by omega) s0
 have ha:=(eh (L:=L) 1 _ _ _ hx).2.1 (Nat.zero_le _)
 have c1:=rD L hL hT 1 (by omega) (by omega) _ _ _ hx (Nat.zero_le _)
 have ht:bK L=ff L zExpr (some (x,s1)):=by unfold bK;rw[hx]
 rw[ht]
 obtain⟨k1,p1,n1,w1,q1,m1,ks1,ss1⟩:=x
 rw[ae] at c1
 refine ah ab false Tryz.func83 rfl (by kernel_rfl) ?_
 simp only[Tryz.f83,tt,seval]
 refine cS (c1) ?_ ?_<;>simp only[tt,seval,PB,s0]
 refine cS (uu L hL hT s1 ha) ?_ ?_<;>simp only[tt,seval,PB]
 refine aa (fun hb=>?_) (fun hb=>?_)
 ·have e:ff L zExpr (some (Expr.mk k1 p1 n1 w1 q1 m1 ks1 ss1,s1))=(zExpr,fM L s1):=if_pos hb
  rw[e]
  refine⟨_,[],rfl,ai ?_⟩
  simp only[tt,seval,dm,zExpr,bC,z0,ae]
 ·have e:ff L zExpr (some (Expr.mk k1 p1 n1 w1 q1 m1 ks1 ss1,s1))=(Expr.mk k1 p1 n1 w1 q1 m1 ks1 ss1,-1):=if_neg (by omega)
  rw[e]
  refine⟨_,[],rfl,ai ?_⟩
  simp only[tt,seval,ae]
end Go.Proofs.YtbodcedhmccenaaGreatDoor
