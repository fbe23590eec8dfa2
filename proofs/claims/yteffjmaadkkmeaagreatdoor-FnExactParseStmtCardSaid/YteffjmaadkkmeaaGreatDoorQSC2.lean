/-
  The reference's parser, second half.
  Conditions: none.
-/
import Derived.Test.YteffjmaadkkmeaaGreatDoorQSC1
set_option linter.unusedVariables false
set_option linter.unusedSimpArgs false
set_option linter.unusedSectionVars false
set_option maxRecDepth 8000
namespace Go.Proofs.YteffjmaadkkmeaaGreatDoor
open Go Go.Dv
open Go.Vc (D eb ec dK bN)
theorem lr (L:List Tok) (hL:L.length≤1048576) (hT:∀t∈L,t.text.size≤1048576) (s:PS) (ha:s.a≤L.length):Cl Tryz.prog 96 [.c (.p 9000 0)] [PB L s] fun r os=>r = .ag (an (sourceM L s).1.row)∧os=[PB L (sourceM L s).2]:=by
 refine ab aa false Tryz.func96 rfl (by kernel_rfl) ?_
 simp only[Tryz.f96,tt,seval]
 refine cS (dA L hL hT s 2 (by omega) ha) (by decide) ?_ ?_<;>simp only[tt,seval,PB]
 have ha1:=(Ok.mText (L:=L) 2 s).2.1 ha
 have he:sourceM L s=(.mk (mText L 2 s).1 (asM L (mText L 2 s).2).1 [],(asM L (mText L 2 s).2).2):=rfl
 rw[he]
 generalize (mText L 2 s).1=x at *
 generalize (mText L 2 s).2=u at *
 refine cS (lV L hL hT u ha1) (by decide) ?_ ?_<;>simp only[tt,seval,PB]
 refine⟨.ag (an (Source.mk x (asM L u).1 []).row),[PB L (asM L u).2],⟨rfl,rfl⟩,aj ?_⟩
 simp only[tt,seval,PB,Source.row_mk,List.flatMap_nil,List.length_nil]
def Gx (L:List Tok) (fn:FuncId) (m:PM (List Expr)):Prop:=∀s x s',m s=some (x,s')→s.a≤L.length→Cl Tryz.prog fn [.c (.p 9000 0)] [PB L s] fun r os=>r = .c (.sl x.length (x.flatMap Expr.row) none)∧os=[PB L s']
theorem jA (L:List Tok) (hL:L.length≤1048576) (hT:∀t∈L,t.text.size≤1048576) {f:Nat→PM Expr} (hf1:mT L 39 [vi 1] (f 1)):Gx L 97 (eM L f):=by
 intro s x s' h ha
 unfold eM at h
 refine ab aa false Tryz.func97 rfl (by kernel_rfl) ?_
 simp only[Tryz.f97,tt,seval]
 refine cS (bi L hL hT s 6 (by omega) (by omega) ha) (by decide) ?_ ?_<;>simp only[tt,seval,PB]
 cases c6:al L s 6 with
 |true=>
  rw[if_pos c6] at h
  split at h
  ·cases h
  rename_i e s1 he
  injection h with h;injection h with h1 h2;subst h1 h2
  simp only[tt,seval,di,dj,cT,dr]
  obtain⟨k1,p1,n1,v1,q1,m1,ks1,ss1⟩:=e
  have c1:=hf1 _ _ _ he (bd (ao c6))
  rw[Expr.row_mk] at c1
  refine cS (c1) (by decide) ?_ ?_<;>simp only[tt,seval,PB,Val.row]
  refine⟨.c (.sl [(Expr.mk k1 p1 n1 v1 q1 m1 ks1 ss1)].length ([(Expr.mk k1 p1 n1 v1 q1 m1 ks1 ss1)].flatMap Expr.row) none),[PB L s1],⟨rfl,rfl⟩,aj ?_⟩
  simp only[tt,seval,rW,Val.row]
 |false=>
  rw[if_neg (by rw[c6];simp)] at h
  injection h with h;injection h with h1 h2;subst h1 h2
  simp only[tt,seval,di,dj,cT,dr,Bool.false_eq_true]
  refine⟨.c (.sl ([]:List Expr).length (([]:List Expr).flatMap Expr.row) none),[PB L s],⟨rfl,rfl⟩,aj ?_⟩
  simp only[tt,seval,PB,List.flatMap_nil,List.length_nil]
theorem CA {L:List Tok} {s:PS} (h:al L s 9=true):al L s 10=false:=by
 unfold al ll at h ⊢
 cases ht:jz L s 0 with
 |none=>rfl
 |some t=>
  rw[ht] at h
  simp only[Bool.and_eq_true,decide_eq_true_eq] at h
  simp only[h.1,h.2]
  decide +kernel
theorem nE (L:List Tok) (hL:L.length≤1048576) (hT:∀t∈L,t.text.size≤1048576) {f:Nat→PM Expr} (ok:∀lv,OkM (L:=L) (f lv)) (hf1:mT L 39 [vi 1] (f 1)) (s:PS) (x:SortKey) (s':PS) (h:fZ L f s=some (x,s')) (ha:s.a≤L.length):Cl Tryz.prog 98 [.c (.p 9000 0)] [PB L s] fun r os=>r = .ag (an x.row)∧os=[PB L s']:=by
 unfold fZ at h
 split at h
 ·cases h
 rename_i e s1 he
 have ha1:=(ok 1 _ _ _ he).2.1 ha
 obtain⟨k1,p1,n1,v1,q1,m1,ks1,ss1⟩:=e
 have c1:=hf1 _ _ _ he ha
 rw[Expr.row_mk] at c1
 refine ab aa false Tryz.func98 rfl (by kernel_rfl) ?_
 simp only[Tryz.f98,tt,seval]
 refine cS (c1) (by decide) ?_ ?_<;>simp only[tt,seval,PB,Val.row]
 cases c9:al L s1 9 with
 |true=>
  have c10:=CA c9
  rw[if_pos c9] at h
  injection h with h;injection h with h1 h2;subst h1 h2
  refine cS (bi L hL hT s1 10 (by omega) (by omega) ha1) (by decide) ?_ ?_<;>simp only[tt,seval,PB]
  simp only[tt,seval,c10,di,dj,cT,dr,Bool.false_eq_true]
  refine cS (bi L hL hT s1 9 (by omega) (by omega) ha1) (by decide) ?_ ?_<;>simp only[tt,seval,PB]
  simp only[tt,seval,c9,di,dj,cT,dr]
  refine⟨.ag (an (SortKey.mk (Expr.mk k1 p1 n1 v1 q1 m1 ks1 ss1) false).row),[PB L (adv s1)],⟨rfl,rfl⟩,aj ?_⟩
  simp only[tt,seval,rW,Val.row,SortKey.row_mk]
 |false=>
  rw[if_neg (by rw[c9];simp)] at h
  injection h with h;injection h with h1 h2;subst h1 h2
  refine cS (bi L hL hT s1 10 (by omega) (by omega) ha1) (by decide) ?_ ?_<;>simp only[tt,seval,PB]
  cases c10:al L s1 10 with
  |true=>
   simp only[tt,seval,di,dj,cT,dr]
   refine⟨.ag (an (SortKey.mk (Expr.mk k1 p1 n1 v1 q1 m1 ks1 ss1) true).row),[PB L (adv s1)],⟨rfl,rfl⟩,aj ?_⟩
   simp only[tt,seval,rW,Val.row,SortKey.row_mk]
  |false=>
   simp only[tt,seval,di,dj,cT,dr,Bool.false_eq_true]
   refine cS (bi L hL hT s1 9 (by omega) (by omega) ha1) (by decide) ?_ ?_<;>simp only[tt,seval,PB]
   simp only[tt,seval,c9,di,dj,cT,dr]
   refine⟨.ag (an (SortKey.mk (Expr.mk k1 p1 n1 v1 q1 m1 ks1 ss1) false).row),[PB L s1],⟨rfl,rfl⟩,aj ?_⟩
   simp only[tt,seval,rW,Val.row,SortKey.row_mk]
theorem jB (L:List Tok) (s:PS):gw L s=(nz L s 2&&(decide ((pz L s 1).kind=5)&&decide ((pz L s 1).text=⟨#[46]⟩)&&(decide ((pz L s 2).kind=5)&&decide ((pz L s 2).text=⟨#[42]⟩)))):=by
 rw[Ap L s 1 5 _ (by decide),Ap L s 2 5 _ (by decide)];rfl
set_option maxHeartbeats 2000000 in
theorem nF (L:List Tok) (hL:L.length≤1048576) (hT:∀t∈L,t.text.size≤1048576) {f:Nat→PM Expr} (ok:∀lv,OkM (L:=L) (f lv)) (hf1:mT L 39 [vi 1] (f 1)) (s:PS) (x:Item) (s':PS) (h:fY L f s=some (x,s')) (ha:s.a≤L.length):Cl Tryz.prog 95 [.c (.p 9000 0)] [PB L s] fun r os=>r = .ag (an x.row)∧os=[PB L s']:=by
 unfold fY at h
 refine ab aa false Tryz.func95 rfl (by kernel_rfl) ?_
 simp only[Tryz.f95,tt,seval]
 refine cS (gD L hL hT s 1 (by omega) ha) (by decide) ?_ ?_<;>simp only[tt,seval,PB,Tok.row]
 refine cS (gD L hL hT s 2 (by omega) ha) (by decide) ?_ ?_<;>simp only[tt,seval,PB,Tok.row]
 refine cS (bK L hL hT s 42 ha) (by decide) ?_ ?_<;>simp only[tt,seval,PB]
 cases c42:be L s 42 with
 |true=>
  rw[if_pos c42] at h
  injection h with h;injection h with h1 h2;subst h1 h2
  simp only[tt,seval]
  refine cS (aS L hL hT s true (fun _=>az c42)) (by decide) ?_ ?_<;>simp only[tt,seval,PB,cT]
  refine⟨.ag (an (Item.mk true z0 aK z0).row),[PB L (adv s)],⟨rfl,rfl⟩,aj ?_⟩
  simp only[tt,seval,rW,Val.row,Item.row_mk]
 |false=>
 rw[if_neg (by rw[c42];simp)] at h
 simp only[tt,seval,Bool.false_eq_true]
 refine cS (jR L hL hT s 2 (by omega) ha) (by decide) ?_ ?_<;>simp only[tt,seval,PB]
 refine And.intro (fun hK=>?_) (fun hK=>?_)
 ·simp only[tt,seval,hK]
  refine And.intro (fun g0=>?_) (fun g0=>?_)
  ·simp only[tt,seval,g0]
   refine And.intro (fun g1=>?_) (fun g1=>?_)
   ·simp only[tt,seval,g1]
    refine And.intro (fun g2=>?_) (fun g2=>?_)
    ·simp only[tt,seval,g2]
     refine And.intro (fun g3=>?_) (fun g3=>?_)
     ·simp only[tt,seval,g3]
      have hst:gw L s=true:=by rw[jB,hK,g0,g1,g2,g3];rfl
      rw[if_pos hst] at h
      injection h with h;injection h with h1 h2;subst h1 h2
      have l3:=(qi hst).2
      have l1:=i6 hK
      have ha1:=bd (L:=L) l1
      refine cS (dA L hL hT s 2 (by omega) ha) (by decide) ?_ ?_<;>simp only[tt,seval,PB]
      rw[kD hK]
      simp only[tt,seval]
      refine cS (aS L hL hT (adv s) true (fun _=>⟨l1.1,by show s.a+1<L.length;omega⟩)) (by decide) ?_ ?_<;>simp only[tt,seval,PB,cT]
      refine cS (aS L hL hT (adv (adv s)) true (fun _=>⟨l1.1,by show s.a+1+1<L.length;omega⟩)) (by decide) ?_ ?_<;>simp only[tt,seval,PB,cT]
      refine⟨.ag (an (Item.mk true (cH L s) aK z0).row),[PB L (adv (adv (adv s)))],⟨rfl,rfl⟩,aj ?_⟩
      simp only[tt,seval,rW,Val.row,Item.row_mk]
     ·simp only[tt,seval,g3,Bool.false_eq_true]
      have hsf:gw L s=false:=by first|(rw[jB,g3];simp only[Bool.false_and,Bool.and_false])|(rw[jB,decide_eq_false g3];simp only[Bool.false_and,Bool.and_false])
      rw[if_neg (by rw[hsf];simp)] at h
      split at h
      ·cases h
      rename_i e s1 he
      injection h with h;injection h with h1 h2;subst h1 h2
      have ha1:=(ok 1 _ _ _ he).2.1 ha
      obtain⟨k1,p1,n1,v1,q1,m1,ks1,ss1⟩:=e
      have c1:=hf1 _ _ _ he ha
      rw[Expr.row_mk] at c1
      refine cS (c1) (by decide) ?_ ?_<;>simp only[tt,seval,PB,Val.row]
      apply dR 2
      case h1=>
       refine dDrawn.intro [50] (.take 1 (.br 0 (.br 2 (.take 3 (.br 4 .done .nobr)) .nobr) (.br 2 (.take 0 (.take 3 (.br 4 .done .nobr))) .nobr))) (by kernel_rfl) ?_
       simp only[tt,seval]
       all_goals repeat' first|refine kf ?_ ?_|refine eB ?_ ?_
       all_goals
        refine cS (lV L hL hT s1 ha1) (by decide) ?_ ?_
        ·simp only[tt,seval,PB,Val.row]
         try decide
        simp only[tt,seval,PB,Val.row]
       all_goals exact⟨rfl,rfl,rfl⟩
      case h2=>
       intro f' hj0
       try simp only[tt,seval,hj0]
       refine⟨.ag (an (Item.mk false z0 (Expr.mk k1 p1 n1 v1 q1 m1 ks1 ss1) (asM L s1).1).row),[PB L (asM L s1).2],⟨rfl,rfl⟩,aj ?_⟩
       simp only[tt,seval,rW,Val.row,Item.row_mk,hj0]
    ·simp only[tt,seval,g2,Bool.false_eq_true]
     have hsf:gw L s=false:=by first|(rw[jB,g2];simp only[Bool.false_and,Bool.and_false])|(rw[jB,decide_eq_false g2];simp only[Bool.false_and,Bool.and_false])
     rw[if_neg (by rw[hsf];simp)] at h
     split at h
     ·cases h
     rename_i e s1 he
     injection h with h;injection h with h1 h2;subst h1 h2
     have ha1:=(ok 1 _ _ _ he).2.1 ha
     obtain⟨k1,p1,n1,v1,q1,m1,ks1,ss1⟩:=e
     have c1:=hf1 _ _ _ he ha
     rw[Expr.row_mk] at c1
     refine cS (c1) (by decide) ?_ ?_<;>simp only[tt,seval,PB,Val.row]
     apply dR 2
     case h1=>
      refine dDrawn.intro [50] (.take 1 (.br 0 (.br 2 (.take 3 (.br 4 .done .nobr)) .nobr) (.br 2 (.take 0 (.take 3 (.br 4 .done .nobr))) .nobr))) (by kernel_rfl) ?_
      simp only[tt,seval]
      all_goals repeat' first|refine kf ?_ ?_|refine eB ?_ ?_
      all_goals
       refine cS (lV L hL hT s1 ha1) (by decide) ?_ ?_
       ·simp only[tt,seval,PB,Val.row]
        try decide
       simp only[tt,seval,PB,Val.row]
      all_goals exact⟨rfl,rfl,rfl⟩
     case h2=>
      intro f' hj0
      try simp only[tt,seval,hj0]
      refine⟨.ag (an (Item.mk false z0 (Expr.mk k1 p1 n1 v1 q1 m1 ks1 ss1) (asM L s1).1).row),[PB L (asM L s1).2],⟨rfl,rfl⟩,aj ?_⟩
      simp only[tt,seval,rW,Val.row,Item.row_mk,hj0]
   ·simp only[tt,seval,g1,Bool.false_eq_true]
    have hsf:gw L s=false:=by first|(rw[jB,g1];simp only[Bool.false_and,Bool.and_false])|(rw[jB,decide_eq_false g1];simp only[Bool.false_and,Bool.and_false])
    rw[if_neg (by rw[hsf];simp)] at h
    split at h
    ·cases h
    rename_i e s1 he
    injection h with h;injection h with h1 h2;subst h1 h2
    have ha1:=(ok 1 _ _ _ he).2.1 ha
    obtain⟨k1,p1,n1,v1,q1,m1,ks1,ss1⟩:=e
    have c1:=hf1 _ _ _ he ha
    rw[Expr.row_mk] at c1
    refine cS (c1) (by decide) ?_ ?_<;>simp only[tt,seval,PB,Val.row]
    apply dR 2
    case h1=>
     refine dDrawn.intro [50] (.take 1 (.br 0 (.br 2 (.take 3 (.br 4 .done .nobr)) .nobr) (.br 2 (.take 0 (.take 3 (.br 4 .done .nobr))) .nobr))) (by kernel_rfl) ?_
     simp only[tt,seval]
     all_goals repeat' first|refine kf ?_ ?_|refine eB ?_ ?_
     all_goals
      refine cS (lV L hL hT s1 ha1) (by decide) ?_ ?_
      ·simp only[tt,seval,PB,Val.row]
       try decide
      simp only[tt,seval,PB,Val.row]
     all_goals exact⟨rfl,rfl,rfl⟩
    case h2=>
     intro f' hj0
     try simp only[tt,seval,hj0]
     refine⟨.ag (an (Item.mk false z0 (Expr.mk k1 p1 n1 v1 q1 m1 ks1 ss1) (asM L s1).1).row),[PB L (asM L s1).2],⟨rfl,rfl⟩,aj ?_⟩
     simp only[tt,seval,rW,Val.row,Item.row_mk,hj0]
  ·simp only[tt,seval,g0,Bool.false_eq_true]
   have hsf:gw L s=false:=by first|(rw[jB,g0];simp only[Bool.false_and,Bool.and_false])|(rw[jB,decide_eq_false g0];simp only[Bool.false_and,Bool.and_false])
   rw[if_neg (by rw[hsf];simp)] at h
   split at h
   ·cases h
   rename_i e s1 he
   injection h with h;injection h with h1 h2;subst h1 h2
   have ha1:=(ok 1 _ _ _ he).2.1 ha
   obtain⟨k1,p1,n1,v1,q1,m1,ks1,ss1⟩:=e
   have c1:=hf1 _ _ _ he ha
   rw[Expr.row_mk] at c1
   refine cS (c1) (by decide) ?_ ?_<;>simp only[tt,seval,PB,Val.row]
   apply dR 2
   case h1=>
    refine dDrawn.intro [50] (.take 1 (.br 0 (.br 2 (.take 3 (.br 4 .done .nobr)) .nobr) (.br 2 (.take 0 (.take 3 (.br 4 .done .nobr))) .nobr))) (by kernel_rfl) ?_
    simp only[tt,seval]
    all_goals repeat' first|refine kf ?_ ?_|refine eB ?_ ?_
    all_goals
     refine cS (lV L hL hT s1 ha1) (by decide) ?_ ?_
     ·simp only[tt,seval,PB,Val.row]
      try decide
     simp only[tt,seval,PB,Val.row]
    all_goals exact⟨rfl,rfl,rfl⟩
   case h2=>
    intro f' hj0
    try simp only[tt,seval,hj0]
    refine⟨.ag (an (Item.mk false z0 (Expr.mk k1 p1 n1 v1 q1 m1 ks1 ss1) (asM L s1).1).row),[PB L (asM L s1).2],⟨rfl,rfl⟩,aj ?_⟩
    simp only[tt,seval,rW,Val.row,Item.row_mk,hj0]
 ·simp only[tt,seval,hK,Bool.false_eq_true]
  have hsf:gw L s=false:=by rw[jB,hK];rfl
  rw[if_neg (by rw[hsf];simp)] at h
  split at h
  ·cases h
  rename_i e s1 he
  injection h with h;injection h with h1 h2;subst h1 h2
  have ha1:=(ok 1 _ _ _ he).2.1 ha
  obtain⟨k1,p1,n1,v1,q1,m1,ks1,ss1⟩:=e
  have c1:=hf1 _ _ _ he ha
  rw[Expr.row_mk] at c1
  refine cS (c1) (by decide) ?_ ?_<;>simp only[tt,seval,PB,Val.row]
  apply dR 2
  case h1=>
   refine dDrawn.intro [50] (.take 1 (.br 0 (.br 2 (.take 3 (.br 4 .done .nobr)) .nobr) (.br 2 (.take 0 (.take 3 (.br 4 .done .nobr))) .nobr))) (by kernel_rfl) ?_
   simp only[tt,seval]
   all_goals repeat' first|refine kf ?_ ?_|refine eB ?_ ?_
   all_goals
    refine cS (lV L hL hT s1 ha1) (by decide) ?_ ?_
    ·simp only[tt,seval,PB,Val.row]
     try decide
    simp only[tt,seval,PB,Val.row]
   all_goals exact⟨rfl,rfl,rfl⟩
  case h2=>
   intro f' hj0
   try simp only[tt,seval,hj0]
   refine⟨.ag (an (Item.mk false z0 (Expr.mk k1 p1 n1 v1 q1 m1 ks1 ss1) (asM L s1).1).row),[PB L (asM L s1).2],⟨rfl,rfl⟩,aj ?_⟩
   simp only[tt,seval,rW,Val.row,Item.row_mk,hj0]
theorem qo (L:List Tok) (hL:L.length≤1048576) (hT:∀t∈L,t.text.size≤1048576) (s:PS) (ha:s.a≤L.length):Cl Tryz.prog 40 [.c (.p 9000 0)] [PB L s] fun r os=>r=vi (iQ L s)∧os=[PB L s]:=by
 refine ab aa false Tryz.func40 rfl (by kernel_rfl) ?_
 simp only[Tryz.f40,tt,seval]
 simp only[tt,seval,PB]
 cases hb:s.b with
 |true=>
  have e:iQ L s=s.a:=if_neg (by rw[hb];simp)
  rw[e]
  refine dDrawn.intro [] (gG [0,2,4,6,8,10,12,14,16,18,20,22,24,26,28,30,32]) (by kernel_rfl) ?_
  simp only[tt,seval]
  exact⟨_,_,⟨rfl,rfl⟩,aj (by simp only[tt,seval])⟩
 |false=>
  refine dDrawn.intro [] (gG [0,2,4,6,8,10,12,14,16,18,20,22,24,26,28,30,32]) (by kernel_rfl) ?_
  simp only[tt,seval]
  refine fun _=>And.intro (fun he=>?_) (fun he=>?_)
  ·have e:iQ L s = -1:=if_pos ⟨hb,by omega⟩
   rw[e]
   exact⟨_,_,⟨rfl,rfl⟩,aj (by simp only[tt,seval])⟩
  ·have e:iQ L s=s.a:=if_neg (by omega)
   rw[e]
   exact⟨_,_,⟨rfl,rfl⟩,aj (by simp only[tt,seval])⟩
theorem uS {L:List Tok} (hL:L.length≤1048576) (hT:∀t∈L,t.text.size≤1048576) (s:PS) (k:Int):(mText L k s).1.size≤1048576:=by
 unfold mText
 split
 ·exact kB hL hT s
 ·exact Nat.zero_le _
set_option maxHeartbeats 16000000 in
theorem rp (L:List Tok) (hL:L.length≤1048576) (hT:∀t∈L,t.text.size≤1048576) {f:Nat→PM Expr} (ok:∀lv,OkM (L:=L) (f lv)) (hf1:mT L 39 [vi 1] (f 1)):Aq L 53 (stepQ L f):=by
 intro s x s' h ha
 unfold stepQ at h
 simp only at h
 refine ab aa false Tryz.func53 rfl (by kernel_rfl) ?_
 simp only[Tryz.f53,tt,seval]
 refine cS (dE L hL hT s 1 (by omega) (by omega) ha) (by decide) ?_ ?_<;>simp (config:={ maxSteps:=4000000 }) only[tt,seval,PB]
 refine cS (aS L hL hT s (al L s 1) (fun h=>ao h)) (by decide) ?_ ?_<;>simp (config:={ maxSteps:=4000000 }) only[tt,seval,PB]
 have o1:Ok L s (must (al L s 1) s):=Ok.must fun h=>ao h
 have ha1:=o1.2.1 ha
 generalize must (al L s 1) s=u1 at *
 refine cS (bi L hL hT u1 2 (by omega) (by omega) ha1) (by decide) ?_ ?_<;>simp (config:={ maxSteps:=4000000 }) only[tt,seval,PB]
 have o2:Ok L u1 (tkIf (al L u1 2) u1):=Ok.tkIf fun h=>ao h
 have ha2:=o2.2.1 ha1
 generalize tkIf (al L u1 2) u1=u2 at *
 generalize al L u1 2=dist at *
 split at h
 ·cases h
 rename_i its u3 hits
 unfold gb at hits
 split at hits
 ·cases hits
 rename_i it1 v1 hit1
 have c1:=nF L hL hT ok hf1 _ _ _ hit1 ha2
 obtain⟨star1,qual1,⟨k1,p1,n1,w1,q1,m1,ks1,ss1⟩,as1⟩:=it1
 rw[Item.row_mk,Expr.row_mk] at c1
 have hav1:=(OkM.item ok _ _ _ hit1).2.1 ha2
 apply iF 0 2 3
 case h1=>
  refine dDrawn.intro [16] (.take 0 (.take 2 (.br 1 (.br 3 (.br 4 (.br 5 (.take 6 (.br 7 .done .nobr)) .nobr) .nobr) .nobr) (.br 3 (.take 1 (.br 4 (.br 5 (.take 6 (.br 7 .done .nobr)) .nobr) .nobr)) .nobr)))) (by kernel_rfl) ?_
  simp (config:={ maxSteps:=4000000 }) only[tt,seval]
  all_goals repeat' first|refine kf ?_ ?_|refine eB ?_ ?_
  all_goals
   refine cS (c1) (by decide) ?_ ?_
   ·simp (config:={ maxSteps:=4000000 }) only[tt,seval,PB,Val.row]
    try decide
   simp (config:={ maxSteps:=4000000 }) only[tt,seval,PB,Val.row]
  all_goals repeat' first|refine yw ?_ ?_|refine oe ?_ ?_|refine og ?_ ?_
  all_goals
   refine⟨by kernel_rfl,⟨by simp only[maxLen];omega,by omega⟩,?_⟩
   try simp (config:={ maxSteps:=4000000 }) only[tt,seval]
  all_goals exact⟨rfl,rfl,rfl,rfl,rfl⟩
 case h2=>
  intro f' hj0 hj1 hj2
  try simp (config:={ maxSteps:=4000000 }) only[tt,seval,hj0,hj1,hj2]
  refine dLoop.gh [.ren 18 29] ⟨by decide,by decide,?_⟩
  refine dLoop0.intro (fun f' Lo p=>∃(m:List Item) (v:PS) (n:Nat),eD L (fY L f) n m v=some (its,u3)∧v.a≤L.length∧m.length≤v.a+1∧Lo=[(9000,.str (PB L v)),(3,.str [.v (.bool dist),.s 29 (m).length,.v (.slice none 0 0),.v (.slice none 0 0),.v (.slice none 0 0),.v (.int .i64 (-1))]),(29,.arr 121 (m).length ((m).flatMap Item.row) none),(2,.str [.v (.bool false),.v (.slice none 0 0),.v (.slice none 0 0),.v (.slice none 0 0),.v (.slice none 0 0),.v (.int .i64 0)])]∧p=none) (fun _ Lo _=>L.length-wT Lo) [(9000,.str (PB L v1)),(3,.str [.v (.bool dist),.s 29 ([(Item.mk star1 qual1 (Expr.mk k1 p1 n1 w1 q1 m1 ks1 ss1) as1)]).length,.v (.slice none 0 0),.v (.slice none 0 0),.v (.slice none 0 0),.v (.int .i64 (-1))]),(29,.arr 121 ([(Item.mk star1 qual1 (Expr.mk k1 p1 n1 w1 q1 m1 ks1 ss1) as1)]).length (([(Item.mk star1 qual1 (Expr.mk k1 p1 n1 w1 q1 m1 ks1 ss1) as1)]).flatMap Item.row) none),(2,.str [.v (.bool false),.v (.slice none 0 0),.v (.slice none 0 0),.v (.slice none 0 0),.v (.slice none 0 0),.v (.int .i64 0)])] none ⟨by simp only[rW,Item.row_mk,Val.row,lc];exact SubO.cons rfl (SubO.cons rfl (SubO.cons rfl (SubO.cons rfl (SubO.nil _)))),PoSub.none _,?_⟩ ?_
  ·simp (config:={ maxSteps:=4000000 }) only[tt,seval,hj0,hj1,hj2]
   exact⟨[(Item.mk star1 qual1 (Expr.mk k1 p1 n1 w1 q1 m1 ks1 ss1) as1)],v1,L.length+1,hits,hav1,by simp,rfl⟩
  ·rintro g' Lo p ⟨m,v,n,hm,hv,hml,rfl,rfl⟩
   try simp (config:={ maxSteps:=4000000 }) only[tt,seval,hj0,hj1,hj2]
   refine cS (bK L hL hT v 44 hv) (by decide) ?_ ?_<;>simp (config:={ maxSteps:=4000000 }) only[tt,seval,PB,hj0,hj1,hj2]
   cases n with
   |zero=>cases hm
   |succ n=>
   rw[eD] at hm
   cases c44:be L v 44 with
   |true=>
    rw[if_pos c44] at hm
    split at hm
    ·cases hm
    rename_i z w hz
    obtain⟨hb,hlt⟩:=az c44
    have hav:=bd (L:=L) (az c44)
    have o3:=OkM.item ok _ _ _ hz
    have o3a:v.a+1≤w.a:=o3.1
    have hw:=o3.2.1 hav
    have c2:=nF L hL hT ok hf1 _ _ _ hz hav
    obtain⟨star2,qual2,⟨k2,p2,n2,w2,q2,m2,ks2,ss2⟩,as2⟩:=z
    rw[Item.row_mk,Expr.row_mk] at c2
    simp (config:={ maxSteps:=4000000 }) only[tt,seval,hj0,hj1,hj2]
    refine cS (aS L hL hT v true (fun _=>az c44)) (by decide) ?_ ?_<;>simp (config:={ maxSteps:=4000000 }) only[tt,seval,PB,cT,hj0,hj1,hj2]
    apply dR 3
    case h1=>
     refine dDrawn.intro [27] (.take 0 (.take 2 (.br 1 (.br 3 (.br 4 (.br 5 (.take 6 (.br 7 .done .nobr)) .nobr) .nobr) .nobr) (.br 3 (.take 1 (.br 4 (.br 5 (.take 6 (.br 7 .done .nobr)) .nobr) .nobr)) .nobr)))) (by kernel_rfl) ?_
     simp (config:={ maxSteps:=4000000 }) only[tt,seval]
     all_goals try simp (config:={ maxSteps:=4000000 }) only[tt,seval,hj0,hj1,hj2]
     all_goals repeat' first|refine kf ?_ ?_|refine eB ?_ ?_
     all_goals
      refine cS (c2) (by decide) ?_ ?_
      ·simp (config:={ maxSteps:=4000000 }) only[tt,seval,PB,Val.row,hj0,hj1,hj2]
       try decide
      simp (config:={ maxSteps:=4000000 }) only[tt,seval,PB,Val.row,hj0,hj1,hj2]
     all_goals repeat' first|refine yw ?_ ?_|refine oe ?_ ?_|refine og ?_ ?_
     all_goals
      refine⟨by kernel_rfl,⟨by simp only[maxLen];omega,by omega⟩,?_⟩
      try simp (config:={ maxSteps:=4000000 }) only[tt,seval]
     all_goals exact⟨rfl,rfl,rfl⟩
    case h2=>
     intro f' hk0
     try simp (config:={ maxSteps:=4000000 }) only[tt,seval,hk0]
     refine⟨[(9000,.str (PB L w)),(3,.str [.v (.bool dist),.s 29 ((m++[(Item.mk star2 qual2 (Expr.mk k2 p2 n2 w2 q2 m2 ks2 ss2) as2)])).length,.v (.slice none 0 0),.v (.slice none 0 0),.v (.slice none 0 0),.v (.int .i64 (-1))]),(29,.arr 121 ((m++[(Item.mk star2 qual2 (Expr.mk k2 p2 n2 w2 q2 m2 ks2 ss2) as2)])).length (((m++[(Item.mk star2 qual2 (Expr.mk k2 p2 n2 w2 q2 m2 ks2 ss2) as2)])).flatMap Item.row) none),(2,.str [.v (.bool false),.v (.slice none 0 0),.v (.slice none 0 0),.v (.slice none 0 0),.v (.slice none 0 0),.v (.int .i64 0)])],none,by simp only[rW,Item.row_mk,Val.row,lc,List.flatMap_append,List.length_append];exact SubO.cons rfl (SubO.cons rfl (SubO.cons rfl (SubO.cons rfl (SubO.nil _)))),PoSub.none _,⟨m++[(Item.mk star2 qual2 (Expr.mk k2 p2 n2 w2 q2 m2 ks2 ss2) as2)],w,n,hm,hw,by simp;omega,rfl,rfl⟩,?_⟩
     show L.length-((w.a:Int)).toNat<L.length-((v.a:Int)).toNat
     omega
   |false=>
    rw[if_neg (by rw[c44];simp)] at hm
    injection hm with hm;injection hm with e1 e2;subst e1 e2
    simp (config:={ maxSteps:=4000000 }) only[tt,seval,Bool.false_eq_true,hj0,hj1,hj2]
    refine cS (dE L hL hT v 3 (by omega) (by omega) hv) (by decide) ?_ ?_<;>simp (config:={ maxSteps:=4000000 }) only[tt,seval,PB,hj0,hj1,hj2]
    refine cS (aS L hL hT v (al L v 3) (fun h=>ao h)) (by decide) ?_ ?_<;>simp (config:={ maxSteps:=4000000 }) only[tt,seval,PB,hj0,hj1,hj2]
    have o4:Ok L v (must (al L v 3) v):=Ok.must fun h=>ao h
    have ha4:=o4.2.1 hv
    generalize must (al L v 3) v=u4 at *
    have c3:=lr L hL hT u4 ha4
    have ha5:=(Ok.sourceM (L:=L) u4).2.1 ha4
    generalize (sourceM L u4).2=v5 at *
    generalize (sourceM L u4).1=sr1 at *
    obtain⟨tb1,sa1,on1⟩:=sr1
    rw[Source.row_mk] at c3
    apply iF 0 2 3
    case h1=>
     refine dDrawn.intro [38] (.take 0 (.take 2 (.br 1 (.br 3 (.br 4 (.br 5 (.take 6 (.br 7 .done .nobr)) .nobr) .nobr) .nobr) (.br 3 (.take 1 (.br 4 (.br 5 (.take 6 (.br 7 .done .nobr)) .nobr) .nobr)) .nobr)))) (by kernel_rfl) ?_
     simp (config:={ maxSteps:=4000000 }) only[tt,seval]
     all_goals try simp (config:={ maxSteps:=4000000 }) only[tt,seval,hj0,hj1,hj2]
     all_goals repeat' first|refine kf ?_ ?_|refine eB ?_ ?_
     all_goals
      refine cS (c3) (by decide) ?_ ?_
      ·simp (config:={ maxSteps:=4000000 }) only[tt,seval,PB,Val.row,hj0,hj1,hj2]
       try decide
      simp (config:={ maxSteps:=4000000 }) only[tt,seval,PB,Val.row,hj0,hj1,hj2]
     all_goals repeat' first|refine yw ?_ ?_|refine oe ?_ ?_|refine og ?_ ?_
     all_goals
      refine⟨by kernel_rfl,⟨by simp only[maxLen];omega,by omega⟩,?_⟩
      try simp (config:={ maxSteps:=4000000 }) only[tt,seval]
     all_goals exact⟨rfl,rfl,rfl,rfl,rfl⟩
    case h2=>
     intro f' hi0 hi1 hi2
     try simp (config:={ maxSteps:=4000000 }) only[tt,seval,hi0,hi1,hi2]
     split at h
     ·cases h
     rename_i frs s4 hfrs
     refine dLoop.gh [.ren 40 67] ⟨by decide,by decide,?_⟩
     refine dLoop0.intro (fun f' Lo p=>∃(l:List Source) (v:PS) (n:Nat),cN L f n l v=some (frs,s4)∧v.a≤L.length∧l.length≤v.a+1∧Lo=[(9000,.str (PB L v)),(3,.str [.v (.bool dist),.s 29 m.length,.s 67 (l).length,.v (.slice none 0 0),.v (.slice none 0 0),.v (.int .i64 (-1))]),(29,.arr 121 m.length (m.flatMap Item.row) none),(67,.arr 124 (l).length ((l).flatMap Source.row) none),(2,.str [.v (.bool false),.v (.slice none 0 0),.v (.slice none 0 0),.v (.slice none 0 0),.v (.slice none 0 0),.v (.int .i64 0)])]∧p=none) (fun _ Lo _=>L.length-wT Lo) [(9000,.str (PB L v5)),(3,.str [.v (.bool dist),.s 29 m.length,.s 67 ([(Source.mk tb1 sa1 on1)]).length,.v (.slice none 0 0),.v (.slice none 0 0),.v (.int .i64 (-1))]),(29,.arr 121 m.length (m.flatMap Item.row) none),(67,.arr 124 ([(Source.mk tb1 sa1 on1)]).length (([(Source.mk tb1 sa1 on1)]).flatMap Source.row) none),(2,.str [.v (.bool false),.v (.slice none 0 0),.v (.slice none 0 0),.v (.slice none 0 0),.v (.slice none 0 0),.v (.int .i64 0)])] none ⟨by simp only[rW,Source.row_mk,Val.row,lc];exact SubO.cons rfl (SubO.cons rfl (SubO.cons rfl (SubO.cons rfl (SubO.cons rfl (SubO.nil _))))),PoSub.none _,?_⟩ ?_
     ·simp (config:={ maxSteps:=4000000 }) only[tt,seval,hi0,hi1,hi2]
      exact⟨[(Source.mk tb1 sa1 on1)],v5,L.length+1,hfrs,ha5,by simp,rfl⟩
     ·rintro g2 Lo p ⟨l,v6,n2,hm2,hv6,hml2,rfl,rfl⟩
      try simp (config:={ maxSteps:=4000000 }) only[tt,seval,hi0,hi1,hi2]
      refine cS (bK L hL hT v6 44 hv6) (by decide) ?_ ?_<;>simp (config:={ maxSteps:=4000000 }) only[tt,seval,PB,hi0,hi1,hi2]
      cases n2 with
      |zero=>cases hm2
      |succ n2=>
      rw[cN] at hm2
      cases c44:be L v6 44 with
      |true=>
       have k4:al L v6 4=false:=by
        cases e:al L v6 4 with
        |false=>rfl
        |true=>have:=qm (c:=44) e;rw[c44] at this;cases this
       rw[if_pos c44] at hm2
       have hav:=bd (L:=L) (az c44)
       have hlt:=(az c44).2
       have c4:=lr L hL hT (adv v6) hav
       have o6:=Ok.sourceM (L:=L) (adv v6)
       have o6a:v6.a+1≤(sourceM L (adv v6)).2.a:=o6.1
       have hw:=o6.2.1 hav
       generalize (sourceM L (adv v6)).2=w6 at *
       generalize (sourceM L (adv v6)).1=sr2 at *
       obtain⟨tb2,sa2,on2⟩:=sr2
       rw[Source.row_mk] at c4
       refine And.intro (fun _=>?_) (fun hx=>by cases hx)
       simp (config:={ maxSteps:=4000000 }) only[tt,seval,hi0,hi1,hi2]
       refine cS (dE L hL hT v6 4 (by omega) (by omega) hv6) (by decide) ?_ ?_<;>simp (config:={ maxSteps:=4000000 }) only[tt,seval,PB,hi0,hi1,hi2]
       simp (config:={ maxSteps:=4000000 }) only[tt,seval,k4]
       refine cS (aS L hL hT v6 true (fun _=>az c44)) (by decide) ?_ ?_<;>simp (config:={ maxSteps:=4000000 }) only[tt,seval,PB,cT,hi0,hi1,hi2]
       refine cS (c4) (by decide) ?_ ?_<;>simp (config:={ maxSteps:=4000000 }) only[tt,seval,PB,hi0,hi1,hi2,Val.row]
       refine⟨by kernel_rfl,⟨by simp only[maxLen];omega,by omega⟩,?_⟩
       refine⟨[(9000,.str (PB L w6)),(3,.str [.v (.bool dist),.s 29 m.length,.s 67 ((l++[Source.mk tb2 sa2 on2])).length,.v (.slice none 0 0),.v (.slice none 0 0),.v (.int .i64 (-1))]),(29,.arr 121 m.length (m.flatMap Item.row) none),(67,.arr 124 ((l++[Source.mk tb2 sa2 on2])).length (((l++[Source.mk tb2 sa2 on2])).flatMap Source.row) none),(2,.str [.v (.bool false),.v (.slice none 0 0),.v (.slice none 0 0),.v (.slice none 0 0),.v (.slice none 0 0),.v (.int .i64 0)])],none,by simp only[rW,Source.row_mk,Val.row,lc,List.flatMap_append,List.length_append];exact SubO.cons rfl (SubO.cons rfl (SubO.cons rfl (SubO.cons rfl (SubO.cons rfl (SubO.nil _))))),PoSub.none _,⟨l++[Source.mk tb2 sa2 on2],w6,n2,hm2,hw,by simp;omega,rfl,rfl⟩,?_⟩
       show L.length-((w6.a:Int)).toNat<L.length-((v6.a:Int)).toNat
       omega
      |false=>
       rw[if_neg (by rw[c44];simp)] at hm2
       refine And.intro (fun hx=>by cases hx) (fun _=>?_)
       simp (config:={ maxSteps:=4000000 }) only[tt,seval,hi0,hi1,hi2]
       refine cS (dE L hL hT v6 4 (by omega) (by omega) hv6) (by decide) ?_ ?_<;>simp (config:={ maxSteps:=4000000 }) only[tt,seval,PB,hi0,hi1,hi2]
       cases k4:al L v6 4 with
       |true=>
        rw[if_pos k4] at hm2
        simp only at hm2
        split at hm2
        ·cases hm2
        rename_i e7 s7 he7
        have hav:=bd (L:=L) (ao k4)
        have hlt:=(ao k4).2
        have c4:=lr L hL hT (adv v6) hav
        have o6:=Ok.sourceM (L:=L) (adv v6)
        have o6a:v6.a+1≤(sourceM L (adv v6)).2.a:=o6.1
        have hw:=o6.2.1 hav
        generalize (sourceM L (adv v6)).2=w6 at *
        generalize (sourceM L (adv v6)).1=sr2 at *
        obtain⟨tb2,sa2,on2⟩:=sr2
        rw[Source.row_mk] at c4
        simp (config:={ maxSteps:=4000000 }) only[tt,seval,hi0,hi1,hi2]
        refine cS (dE L hL hT v6 4 (by omega) (by omega) hv6) (by decide) ?_ ?_<;>simp (config:={ maxSteps:=4000000 }) only[tt,seval,PB,hi0,hi1,hi2]
        simp (config:={ maxSteps:=4000000 }) only[tt,seval,k4]
        refine cS (aS L hL hT v6 true (fun _=>ao k4)) (by decide) ?_ ?_<;>simp (config:={ maxSteps:=4000000 }) only[tt,seval,PB,cT,hi0,hi1,hi2]
        refine cS (c4) (by decide) ?_ ?_<;>simp (config:={ maxSteps:=4000000 }) only[tt,seval,PB,hi0,hi1,hi2,Val.row]
        refine cS (dE L hL hT w6 5 (by omega) (by omega) hw) (by decide) ?_ ?_<;>simp (config:={ maxSteps:=4000000 }) only[tt,seval,PB,hi0,hi1,hi2]
        refine cS (aS L hL hT w6 (al L w6 5) (fun h=>ao h)) (by decide) ?_ ?_<;>simp (config:={ maxSteps:=4000000 }) only[tt,seval,PB,hi0,hi1,hi2]
        have o7:Ok L w6 (must (al L w6 5) w6):=Ok.must fun h=>ao h
        have o7a:=o7.1
        have hw7:=o7.2.1 hw
        generalize must (al L w6 5) w6=w7 at *
        have o8:=ok 1 _ _ _ he7
        have o8a:=o8.1
        have hs7:=o8.2.1 hw7
        obtain⟨k7,p7,n7,x7,q7,m7,ks7,ss7⟩:=e7
        have c7:=hf1 _ _ _ he7 hw7
        rw[Expr.row_mk] at c7
        refine cS (c7) (by decide) ?_ ?_<;>simp (config:={ maxSteps:=4000000 }) only[tt,seval,PB,hi0,hi1,hi2,Val.row]
        refine⟨by kernel_rfl,⟨by simp only[maxLen];omega,by omega⟩,?_⟩
        refine⟨[(9000,.str (PB L s7)),(3,.str [.v (.bool dist),.s 29 m.length,.s 67 ((l++[Source.mk tb2 sa2 [Expr.mk k7 p7 n7 x7 q7 m7 ks7 ss7]])).length,.v (.slice none 0 0),.v (.slice none 0 0),.v (.int .i64 (-1))]),(29,.arr 121 m.length (m.flatMap Item.row) none),(67,.arr 124 ((l++[Source.mk tb2 sa2 [Expr.mk k7 p7 n7 x7 q7 m7 ks7 ss7]])).length (((l++[Source.mk tb2 sa2 [Expr.mk k7 p7 n7 x7 q7 m7 ks7 ss7]])).flatMap Source.row) none),(2,.str [.v (.bool false),.v (.slice none 0 0),.v (.slice none 0 0),.v (.slice none 0 0),.v (.slice none 0 0),.v (.int .i64 0)])],none,by simp only[rW,Source.row_mk,Val.row,lc,List.flatMap_append,List.length_append];exact SubO.cons rfl (SubO.cons rfl (SubO.cons rfl (SubO.cons rfl (SubO.cons rfl (SubO.nil _))))),PoSub.none _,⟨l++[Source.mk tb2 sa2 [Expr.mk k7 p7 n7 x7 q7 m7 ks7 ss7]],s7,n2,hm2,hs7,by simp;omega,rfl,rfl⟩,?_⟩
        show L.length-((s7.a:Int)).toNat<L.length-((v6.a:Int)).toNat
        omega
       |false=>
        rw[if_neg (by rw[k4];simp)] at hm2
        injection hm2 with hm2;injection hm2 with e1 e2;subst e1 e2
        simp (config:={ maxSteps:=4000000 }) only[tt,seval,Bool.false_eq_true,hi0,hi1,hi2]
        split at h
        ·cases h
        rename_i wh s5 hwh
        have hs5:=(OkM.wher ok _ _ _ hwh).2.1 hv6
        have cw:=jA L hL hT hf1 _ _ _ hwh hv6
        refine cS (cw) (by decide) ?_ ?_<;>simp (config:={ maxSteps:=4000000 }) only[tt,seval,PB,hi0,hi1,hi2]
        refine cS (bi L hL hT s5 7 (by omega) (by omega) hs5) (by decide) ?_ ?_<;>simp (config:={ maxSteps:=4000000 }) only[tt,seval,PB,hi0,hi1,hi2]
        split at h
        ·cases h
        rename_i ord s6 hord
        unfold g7 at hord
        cases c7:al L s5 7 with
        |false=>
         rw[if_neg (by rw[c7];simp)] at hord
         injection hord with hord;injection hord with e1 e2;subst e1 e2
         simp (config:={ maxSteps:=4000000 }) only[tt,seval,di,dj,cT,dr,Bool.false_eq_true,hi0,hi1,hi2]
         refine cS (bi L hL hT s5 11 (by omega) (by omega) hs5) (by decide) ?_ ?_<;>simp (config:={ maxSteps:=4000000 }) only[tt,seval,PB,hi0,hi1,hi2]
         cases uw:al L s5 11 with
         |true=>
          have hlim:limitM L s5=(ku (mText L 3 (adv s5)).1,(mText L 3 (adv s5)).2):=by rw[limitM,if_pos uw];rfl
          rw[hlim] at h
          injection h with h;injection h with h1 h2;subst h1 h2
          have hsz:=uS hL hT (adv s5) 3
          simp (config:={ maxSteps:=4000000 }) only[tt,seval,di,dj,cT,dr,hi0,hi1,hi2]
          refine cS (dA L hL hT (adv s5) 3 (by omega) (bd (ao uw))) (by decide) ?_ ?_<;>simp (config:={ maxSteps:=4000000 }) only[tt,seval,PB,hi0,hi1,hi2]
          generalize (mText L 3 (adv s5)).1=xn at *
          generalize (mText L 3 (adv s5)).2=sn at *
          refine cZ (ny xn hsz) (by decide) ?_ ?_<;>simp (config:={ maxSteps:=4000000 }) only[tt,seval,mp,hi0,hi1,hi2]
          refine⟨.ag (an (Query.mk dist m l wh ([]:List SortKey) (ku xn)).row),[PB L (sn)],⟨rfl,rfl⟩,aj ?_⟩
          simp (config:={ maxSteps:=4000000 }) only[tt,seval,rW,Val.row,PB,hi0,hi1,hi2]
         |false=>
          have hlim:limitM L s5=(-1,s5):=by rw[limitM,if_neg (by rw[uw];simp)]
          rw[hlim] at h
          injection h with h;injection h with h1 h2;subst h1 h2
          simp (config:={ maxSteps:=4000000 }) only[tt,seval,di,dj,cT,dr,Bool.false_eq_true,hi0,hi1,hi2]
          refine⟨.ag (an (Query.mk dist m l wh ([]:List SortKey) (-1)).row),[PB L (s5)],⟨rfl,rfl⟩,aj ?_⟩
          simp (config:={ maxSteps:=4000000 }) only[tt,seval,rW,Val.row,PB,hi0,hi1,hi2]
        |true=>
         rw[if_pos c7] at hord
         simp only at hord
         split at hord
         ·cases hord
         rename_i z1 y1 hz1
         simp (config:={ maxSteps:=4000000 }) only[tt,seval,di,dj,cT,dr,hi0,hi1,hi2]
         have hav5:=bd (L:=L) (ao c7)
         have hlt5:=(ao c7).2
         refine cS (dE L hL hT (adv s5) 8 (by omega) (by omega) hav5) (by decide) ?_ ?_<;>simp (config:={ maxSteps:=4000000 }) only[tt,seval,PB,hi0,hi1,hi2]
         refine cS (aS L hL hT (adv s5) (al L (adv s5) 8) (fun h=>ao h)) (by decide) ?_ ?_<;>simp (config:={ maxSteps:=4000000 }) only[tt,seval,PB,hi0,hi1,hi2]
         have o9:Ok L (adv s5) (must (al L (adv s5) 8) (adv s5)):=Ok.must fun h=>ao h
         have hu9:=o9.2.1 hav5
         generalize must (al L (adv s5) 8) (adv s5)=u9 at *
         have c9:=nE L hL hT ok hf1 _ _ _ hz1 hu9
         have hy1:=(OkM.sort ok _ _ _ hz1).2.1 hu9
         obtain⟨⟨k9,p9,n9,x9,q9,m9,ks9,ss9⟩,de9⟩:=z1
         rw[SortKey.row_mk,Expr.row_mk] at c9
         apply iF 0 2 3
         case h1=>
          refine dDrawn.intro [81] (.take 0 (.take 2 (.br 1 (.br 3 (.br 4 (.br 5 (.take 6 (.br 7 .done .nobr)) .nobr) .nobr) .nobr) (.br 3 (.take 1 (.br 4 (.br 5 (.take 6 (.br 7 .done .nobr)) .nobr) .nobr)) .nobr)))) (by kernel_rfl) ?_
          simp (config:={ maxSteps:=4000000 }) only[tt,seval]
          all_goals try simp (config:={ maxSteps:=4000000 }) only[tt,seval,hi0,hi1,hi2]
          all_goals repeat' first|refine kf ?_ ?_|refine eB ?_ ?_
          all_goals
           refine cS (c9) (by decide) ?_ ?_
           ·simp (config:={ maxSteps:=4000000 }) only[tt,seval,PB,Val.row,hi0,hi1,hi2]
            try decide
           simp (config:={ maxSteps:=4000000 }) only[tt,seval,PB,Val.row,hi0,hi1,hi2]
          all_goals repeat' first|refine yw ?_ ?_|refine oe ?_ ?_|refine og ?_ ?_
          all_goals
           refine⟨by kernel_rfl,⟨by simp only[maxLen];omega,by omega⟩,?_⟩
           try simp (config:={ maxSteps:=4000000 }) only[tt,seval]
          all_goals exact⟨rfl,rfl,rfl,rfl,rfl⟩
         case h2=>
          intro f' hl0 hl1 hl2
          try simp (config:={ maxSteps:=4000000 }) only[tt,seval,hl0,hl1,hl2]
          refine dLoop.gh [.ren 83 94] ⟨by decide,by decide,?_⟩
          refine dLoop0.intro (fun f' Lo p=>∃(l9:List SortKey) (v9:PS) (n9':Nat),eD L (fZ L f) n9' l9 v9=some (ord,s6)∧v9.a≤L.length∧l9.length≤v9.a+1∧Lo=[(9000,.str (PB L v9)),(3,.str [.v (.bool dist),.s 29 m.length,.s 67 l.length,.sl wh.length (wh.flatMap Expr.row) none,.s 94 (l9).length,.v (.int .i64 (-1))]),(29,.arr 121 m.length (m.flatMap Item.row) none),(67,.arr 124 l.length (l.flatMap Source.row) none),(94,.arr 128 (l9).length ((l9).flatMap SortKey.row) none),(2,.str [.v (.bool false),.v (.slice none 0 0),.v (.slice none 0 0),.v (.slice none 0 0),.v (.slice none 0 0),.v (.int .i64 0)])]∧p=none) (fun _ Lo _=>L.length-wT Lo) [(9000,.str (PB L y1)),(3,.str [.v (.bool dist),.s 29 m.length,.s 67 l.length,.sl wh.length (wh.flatMap Expr.row) none,.s 94 ([(SortKey.mk (Expr.mk k9 p9 n9 x9 q9 m9 ks9 ss9) de9)]).length,.v (.int .i64 (-1))]),(29,.arr 121 m.length (m.flatMap Item.row) none),(67,.arr 124 l.length (l.flatMap Source.row) none),(94,.arr 128 ([(SortKey.mk (Expr.mk k9 p9 n9 x9 q9 m9 ks9 ss9) de9)]).length (([(SortKey.mk (Expr.mk k9 p9 n9 x9 q9 m9 ks9 ss9) de9)]).flatMap SortKey.row) none),(2,.str [.v (.bool false),.v (.slice none 0 0),.v (.slice none 0 0),.v (.slice none 0 0),.v (.slice none 0 0),.v (.int .i64 0)])] none ⟨by simp only[rW,SortKey.row_mk,Val.row,lc];exact SubO.cons rfl (SubO.cons rfl (SubO.cons rfl (SubO.cons rfl (SubO.cons rfl (SubO.cons rfl (SubO.nil _)))))),PoSub.none _,?_⟩ ?_
          ·simp (config:={ maxSteps:=4000000 }) only[tt,seval,hl0,hl1,hl2]
           exact⟨[(SortKey.mk (Expr.mk k9 p9 n9 x9 q9 m9 ks9 ss9) de9)],y1,L.length+1,hord,hy1,by simp,rfl⟩
          ·rintro g3 Lo p ⟨l9,v9,n9',hm9,hv9,hml9,rfl,rfl⟩
           try simp (config:={ maxSteps:=4000000 }) only[tt,seval,hl0,hl1,hl2]
           refine cS (bK L hL hT v9 44 hv9) (by decide) ?_ ?_<;>simp (config:={ maxSteps:=4000000 }) only[tt,seval,PB,hl0,hl1,hl2]
           cases n9' with
           |zero=>cases hm9
           |succ n9'=>
           rw[eD] at hm9
           cases c44:be L v9 44 with
           |true=>
            rw[if_pos c44] at hm9
            split at hm9
            ·cases hm9
            rename_i za wa hza
            obtain⟨hb9,hlt9⟩:=az c44
            have hav9:=bd (L:=L) (az c44)
            have oa:=OkM.sort ok _ _ _ hza
            have oaa:v9.a+1≤wa.a:=oa.1
            have hwa:=oa.2.1 hav9
            have ca:=nE L hL hT ok hf1 _ _ _ hza hav9
            obtain⟨⟨ka,pa,na,xa,qa,ma,ksa,ssa⟩,dea⟩:=za
            rw[SortKey.row_mk,Expr.row_mk] at ca
            simp (config:={ maxSteps:=4000000 }) only[tt,seval,hl0,hl1,hl2]
            refine cS (aS L hL hT v9 true (fun _=>az c44)) (by decide) ?_ ?_<;>simp (config:={ maxSteps:=4000000 }) only[tt,seval,PB,cT,hl0,hl1,hl2]
            apply dR 3
            case h1=>
             refine dDrawn.intro [92] (.take 0 (.take 2 (.br 1 (.br 3 (.br 4 (.br 5 (.take 6 (.br 7 .done .nobr)) .nobr) .nobr) .nobr) (.br 3 (.take 1 (.br 4 (.br 5 (.take 6 (.br 7 .done .nobr)) .nobr) .nobr)) .nobr)))) (by kernel_rfl) ?_
             simp (config:={ maxSteps:=4000000 }) only[tt,seval]
             all_goals try simp (config:={ maxSteps:=4000000 }) only[tt,seval,hl0,hl1,hl2]
             all_goals repeat' first|refine kf ?_ ?_|refine eB ?_ ?_
             all_goals
              refine cS (ca) (by decide) ?_ ?_
              ·simp (config:={ maxSteps:=4000000 }) only[tt,seval,PB,Val.row,hl0,hl1,hl2]
               try decide
              simp (config:={ maxSteps:=4000000 }) only[tt,seval,PB,Val.row,hl0,hl1,hl2]
             all_goals repeat' first|refine yw ?_ ?_|refine oe ?_ ?_|refine og ?_ ?_
             all_goals
              refine⟨by kernel_rfl,⟨by simp only[maxLen];omega,by omega⟩,?_⟩
              try simp (config:={ maxSteps:=4000000 }) only[tt,seval]
             all_goals exact⟨rfl,rfl,rfl⟩
            case h2=>
             intro f' hn0
             try simp (config:={ maxSteps:=4000000 }) only[tt,seval,hn0]
             refine⟨[(9000,.str (PB L wa)),(3,.str [.v (.bool dist),.s 29 m.length,.s 67 l.length,.sl wh.length (wh.flatMap Expr.row) none,.s 94 ((l9++[(SortKey.mk (Expr.mk ka pa na xa qa ma ksa ssa) dea)])).length,.v (.int .i64 (-1))]),(29,.arr 121 m.length (m.flatMap Item.row) none),(67,.arr 124 l.length (l.flatMap Source.row) none),(94,.arr 128 ((l9++[(SortKey.mk (Expr.mk ka pa na xa qa ma ksa ssa) dea)])).length (((l9++[(SortKey.mk (Expr.mk ka pa na xa qa ma ksa ssa) dea)])).flatMap SortKey.row) none),(2,.str [.v (.bool false),.v (.slice none 0 0),.v (.slice none 0 0),.v (.slice none 0 0),.v (.slice none 0 0),.v (.int .i64 0)])],none,by simp only[rW,SortKey.row_mk,Val.row,lc,List.flatMap_append,List.length_append];exact SubO.cons rfl (SubO.cons rfl (SubO.cons rfl (SubO.cons rfl (SubO.cons rfl (SubO.cons rfl (SubO.nil _)))))),PoSub.none _,⟨l9++[(SortKey.mk (Expr.mk ka pa na xa qa ma ksa ssa) dea)],wa,n9',hm9,hwa,by simp;omega,rfl,rfl⟩,?_⟩
             show L.length-((wa.a:Int)).toNat<L.length-((v9.a:Int)).toNat
             omega
           |false=>
            rw[if_neg (by rw[c44];simp)] at hm9
            injection hm9 with hm9;injection hm9 with e1 e2;subst e1 e2
            simp (config:={ maxSteps:=4000000 }) only[tt,seval,Bool.false_eq_true,hl0,hl1,hl2]
            refine cS (bi L hL hT v9 11 (by omega) (by omega) hv9) (by decide) ?_ ?_<;>simp (config:={ maxSteps:=4000000 }) only[tt,seval,PB,hl0,hl1,hl2]
            cases uw:al L v9 11 with
            |true=>
             have hlim:limitM L v9=(ku (mText L 3 (adv v9)).1,(mText L 3 (adv v9)).2):=by rw[limitM,if_pos uw];rfl
             rw[hlim] at h
             injection h with h;injection h with h1 h2;subst h1 h2
             have hsz:=uS hL hT (adv v9) 3
             simp (config:={ maxSteps:=4000000 }) only[tt,seval,di,dj,cT,dr,hl0,hl1,hl2]
             refine cS (dA L hL hT (adv v9) 3 (by omega) (bd (ao uw))) (by decide) ?_ ?_<;>simp (config:={ maxSteps:=4000000 }) only[tt,seval,PB,hl0,hl1,hl2]
             generalize (mText L 3 (adv v9)).1=xn at *
             generalize (mText L 3 (adv v9)).2=sn at *
             refine cZ (ny xn hsz) (by decide) ?_ ?_<;>simp (config:={ maxSteps:=4000000 }) only[tt,seval,mp,hl0,hl1,hl2]
             refine⟨.ag (an (Query.mk dist m l wh l9 (ku xn)).row),[PB L (sn)],⟨rfl,rfl⟩,aj ?_⟩
             simp (config:={ maxSteps:=4000000 }) only[tt,seval,rW,Val.row,PB,hl0,hl1,hl2]
            |false=>
             have hlim:limitM L v9=(-1,v9):=by rw[limitM,if_neg (by rw[uw];simp)]
             rw[hlim] at h
             injection h with h;injection h with h1 h2;subst h1 h2
             simp (config:={ maxSteps:=4000000 }) only[tt,seval,di,dj,cT,dr,Bool.false_eq_true,hl0,hl1,hl2]
             refine⟨.ag (an (Query.mk dist m l wh l9 (-1)).row),[PB L (v9)],⟨rfl,rfl⟩,aj ?_⟩
             simp (config:={ maxSteps:=4000000 }) only[tt,seval,rW,Val.row,PB,hl0,hl1,hl2]
theorem Ax (L:List Tok) (hL:L.length≤1048576) (hT:∀t∈L,t.text.size≤1048576):∀k,(∀lv:Nat,1≤lv→lv≤8→mT L 39 [vi lv] ((pP L k).1 lv))∧mT L 90 [] ((pP L k).1 9)∧Aq L 53 (pP L k).2
 |0=>⟨fun _ _ _ _ _ _ h=>(by cases h),fun _ _ _ h=>(by cases h),fun _ _ _ h=>(by cases h)⟩
 |k+1=>by
  obtain⟨h1,h2,h3⟩:=Ax L hL hT k
  obtain⟨ok,okq⟩:=pg (L:=L) k
  refine⟨fun lv a b=>?_,?_,?_⟩
  ·show mT L _ _ (stepE L (pP L k).1 (pP L k).2 lv)
   by_cases e3:lv=3
   ·subst e3;exact At L hL hT ok okq h1 h2 h3
   by_cases e4:lv=4
   ·subst e4;exact Au L hL hT ok okq h1 h2 h3
   by_cases e8:lv=8
   ·subst e8;exact Av L hL hT ok okq h1 h2 h3
   ·exact Aw L hL hT ok okq h1 h2 h3 lv (by simp only[List.mem_cons,List.not_mem_nil,or_false];omega)
  ·have e:(pP L (k+1)).1 9=gv L (pP L k).1 (pP L k).2:=rfl
   rw[e]
   exact tA L hL hT (ok 1) okq (h1 1 (by omega) (by omega)) h3
  ·exact rp L hL hT ok (h1 1 (by omega) (by omega))
theorem sc (L:List Tok) (hL:L.length≤1048576) (hT:∀t∈L,t.text.size≤1048576) (lv:Nat) (h1:1≤lv) (h2:lv≤8):mT L 39 [vi lv] (iP L lv):=(Ax L hL hT (pD L)).1 lv h1 h2
theorem qp (L:List Tok) (hL:L.length≤1048576) (hT:∀t∈L,t.text.size≤1048576):Aq L 53 (i7 L):=(Ax L hL hT (pD L)).2.2
theorem wU (L:List Tok) (hL:L.length≤1048576) (hT:∀t∈L,t.text.size≤1048576):Cl Tryz.prog 11 [.c (.sl L.length (L.flatMap Tok.row) none)] [] fun r _=>r = .tu [(an (cn L).1.row,false),([.v (.int .i64 (cn L).2)],true)]:=by
 obtain⟨x,s1,hx⟩:=jQ (L:=L) 1 (by omega) (by omega) s0
 have ha:=(ey (L:=L) 1 _ _ _ hx).2.1 (Nat.zero_le _)
 have c1:=sc L hL hT 1 (by omega) (by omega) _ _ _ hx (Nat.zero_le _)
 have ht:cn L=dC L aK (some (x,s1)):=by unfold cn;rw[hx]
 rw[ht]
 obtain⟨k1,p1,n1,w1,q1,m1,ks1,ss1⟩:=x
 rw[Expr.row_mk] at c1
 refine ab aa false Tryz.func11 rfl (by kernel_rfl) ?_
 simp only[Tryz.f11,tt,seval]
 refine cS (c1) (by decide) ?_ ?_<;>simp only[tt,seval,PB,Val.row,s0]
 refine cS (qo L hL hT s1 ha) (by decide) ?_ ?_<;>simp only[tt,seval,PB,Val.row]
 refine And.intro (fun hb=>?_) (fun hb=>?_)
 ·have e:dC L aK (some (Expr.mk k1 p1 n1 w1 q1 m1 ks1 ss1,s1))=(aK,iQ L s1):=if_pos hb
  rw[e]
  refine⟨_,[],rfl,aj ?_⟩
  simp only[tt,seval,rW,Val.row,List.flatMap_nil,List.length_nil]
 ·have e:dC L aK (some (Expr.mk k1 p1 n1 w1 q1 m1 ks1 ss1,s1))=(Expr.mk k1 p1 n1 w1 q1 m1 ks1 ss1,-1):=if_neg (by omega)
  rw[e]
  refine⟨_,[],rfl,aj ?_⟩
  simp only[tt,seval,rW,Val.row]
theorem uT (L:List Tok) (hL:L.length≤1048576) (hT:∀t∈L,t.text.size≤1048576):Cl Tryz.prog 19 [.c (.sl L.length (L.flatMap Tok.row) none)] [] fun r _=>r = .tu [(an (cu L).1.row,false),([.v (.int .i64 (cu L).2)],true)]:=by
 obtain⟨x,s1,hx⟩:=fQ (L:=L) s0
 have ha:=(ez (L:=L) _ _ _ hx).2.1 (Nat.zero_le _)
 have c1:=qp L hL hT _ _ _ hx (Nat.zero_le _)
 have ht:cu L=dC L ar (some (x,s1)):=by unfold cu;rw[hx]
 rw[ht]
 obtain⟨d,its,frs,whs,ods,lim⟩:=x
 rw[Query.row_mk] at c1
 refine ab aa false Tryz.func19 rfl (by kernel_rfl) ?_
 simp only[Tryz.f19,tt,seval]
 refine cS (c1) (by decide) ?_ ?_<;>simp only[tt,seval,PB,s0]
 refine cS (qo L hL hT s1 ha) (by decide) ?_ ?_<;>simp only[tt,seval,PB]
 refine And.intro (fun hb=>?_) (fun hb=>?_)
 ·have e:dC L ar (some (Query.mk d its frs whs ods lim,s1))=(ar,iQ L s1):=if_pos hb
  rw[e]
  refine⟨_,[],rfl,aj ?_⟩
  simp only[tt,seval,rW,ar,List.flatMap_nil,List.length_nil]
 ·have e:dC L ar (some (Query.mk d its frs whs ods lim,s1))=(Query.mk d its frs whs ods lim,-1):=if_neg (by omega)
  rw[e]
  refine⟨_,[],rfl,aj ?_⟩
  simp only[tt,seval,rW]
end Go.Proofs.YteffjmaadkkmeaaGreatDoor
