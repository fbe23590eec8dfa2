/-
  The program's parser, second half.
  Conditions: none.
-/
import Derived.Test.YtoegnikpokgbfaaGreatDoorMID1
set_option linter.unusedVariables false
set_option linter.unusedSimpArgs false
set_option linter.unusedSectionVars false
set_option linter.unnecessarySimpa false
set_option maxRecDepth 8000
namespace Go.Proofs.YtoegnikpokgbfaaGreatDoor
open Go Go.Dv Go.Cv
open Go.Vc (D cF cG cv aX)
set_option maxHeartbeats 8000000 in
theorem yF (L:List Tok) (hL:L.length<=1048576) (hT:∀t∈L,t.text.size<=1048576) {f:Nat->PM Expr} {q:PM Query} (ok:∀lv,OkM (L:=L) (f lv)) (okq:OkM (L:=L) q) (hor:gJ L 57 (f 1)) (hc:gJ L 240 (f 5)) (hq:GH L 256 q):gJ L 224 (stepE L f q 4):=by
 intro s x s' h ha
 have h:ly L f q s=some (x,s'):=h
 unfold ly at h
 split at h
 ·cases h
 rename_i e s1 he
 have ha1:=(ok 5 _ _ _ he).2.1 ha
 obtain⟨k1,p1,n1,v1,q1,m1,ks1,ss1⟩:=e
 have c1:=hc _ _ _ he ha
 rw[ai] at c1
 refine am ah true Tryz.func224 rfl ac ?_
 simp only[Tryz.f224,tt,seval]
 refine CallQ.intro (c1) ?_ ?_ ?_
 ·decide
 ·simp only[tt,seval,PB]
 rintro r os ⟨⟨Fk,Fs,rfl⟩,rfl⟩ hos
 simp only[tt,seval,PB,ap]
 have co:=r9 L hL hT s1 (eU 4) ae ae ha1
 have hop0:gR L s1 (eU 4)=d5 L s1 4:=rfl
 rw[hop0] at co
 simp only[HE] at co
 refine eK [11] ?_
 simp only[tt,seval]
 refine fun G=>?_
 refine Call1.intro (co) ?_ ?_ ?_
 ·decide
 ·simp only[tt,seval,PB,kg]
 rintro r os ⟨rfl,rfl⟩ hos
 simp only[tt,seval,PB,kg]
 by_cases hop:d5 L s1 4=0
 ·rw[if_pos hop] at h
  have e0:decide (¬((d5 L s1 4:Nat):Int)=0)=false:=aG aa
  have e0':(((d5 L s1 4:Nat):Int)=0)=True:=eq_true aa
  have e1:decide (¬d5 L s1 4=0)=false:=aG aa
  simp only[tt,seval,e0',e1,mN]
  unfold cmpT at h
  simp only at h
  refine cS (bt L hL hT s1 16 ⟨#[73,83]⟩ ac ha1) ?_ ?_<;>simp only[tt,seval,PB]
  cases c16:az L s1 16 with
  |true=>
   rw[if_pos c16] at h
   have hav:=cV (L:=L) (aB c16)
   simp only[tt,seval,mM]
   refine cS (bt L hL hT (adv s1) 15 ⟨#[78,79,84]⟩ ac hav) ?_ ?_<;>simp only[tt,seval,PB]
   have o2:Ok L (adv s1) (tkIf (az L (adv s1) 15) (adv s1)):=Ok.tkIf fun h=>aB h
   have ha2:=o2.2.1 hav
   generalize tkIf (az L (adv s1) 15) (adv s1)=s2 at *
   generalize az L (adv s1) 15=nn at *
   refine cS (fh L hL hT s2 20 ⟨#[78,85,76,76]⟩ ac ha2) ?_ ?_<;>simp only[tt,seval,PB]
   injection h with h;injection h with h1 h2;subst h1 h2
   refine fun G0=>?_
   refine⟨.ag (ap (cH 5 nn [(Expr.mk k1 p1 n1 v1 q1 m1 ks1 ss1)] []).row [G0::(Fk++Fs),[]]),[PB L (must (az L s2 20) s2)],⟨⟨_,_,rfl⟩,rfl⟩,au ?_⟩
   simp only[tt,seval,mC,PB,cH,zVal,z0,ai,ap]
   first|done|exact lW
  |false=>
  rw[if_neg (by rw[c16];simp)] at h
  simp only[tt,seval,mN]
  refine cS (bt L hL hT s1 15 ⟨#[78,79,84]⟩ ac ha1) ?_ ?_<;>simp only[tt,seval,PB]
  have o2:Ok L s1 (tkIf (az L s1 15) s1):=Ok.tkIf fun h=>aB h
  have ha2:=o2.2.1 ha1
  generalize tkIf (az L s1 15) s1=s2 at *
  generalize az L s1 15=nn at *
  refine cS (bt L hL hT s2 18 ⟨#[66,69,84,87,69,69,78]⟩ ac ha2) ?_ ?_<;>simp only[tt,seval,PB]
  cases c18:az L s2 18 with
  |true=>
   rw[if_pos c18] at h
   split at h
   ·cases h
   rename_i lo s3 hlo
   split at h
   ·cases h
   rename_i hi s4 hhi
   injection h with h;injection h with h1 h2;subst h1 h2
   have hav:=cV (L:=L) (aB c18)
   have ha3:=(ok 5 _ _ _ hlo).2.1 hav
   obtain⟨k2,p2,n2,v2,q2,m2,ks2,ss2⟩:=lo
   have c2:=hc _ _ _ hlo hav
   rw[ai] at c2
   simp only[tt,seval,mM]
   refine CallQ.intro (c2) ?_ ?_ ?_
   ·decide
   ·simp only[tt,seval,PB]
   rintro r os ⟨⟨Gk,Gs,rfl⟩,rfl⟩ hos
   simp only[tt,seval,PB,ap]
   refine cS (fh L hL hT s3 13 ⟨#[65,78,68]⟩ ac ha3) ?_ ?_<;>simp only[tt,seval,PB]
   have o3:Ok L s3 (must (az L s3 13) s3):=Ok.must fun h=>aB h
   have ha4:=o3.2.1 ha3
   generalize must (az L s3 13) s3=s5 at *
   obtain⟨k3,p3,n3,v3,q3,m3,ks3,ss3⟩:=hi
   have c3:=hc _ _ _ hhi ha4
   rw[ai] at c3
   refine dDrawn.intro [43] (.take 0 (.take 3 (.br 1 (.br 2 (.br 4 (.br 5 (.take 6 (.br 7 .done .nobr)) .nobr) .nobr) (.br 4 (.take 2 (.br 5 (.take 6 (.br 7 .done .nobr)) .nobr)) .nobr)) (.br 2 (.br 1 (.br 4 (.br 5 (.take 6 (.br 7 .done .nobr)) .nobr) .nobr) (.br 4 (.take 1 (.br 5 (.take 6 (.br 7 .done .nobr)) .nobr)) .nobr)) (.br 4 (.take 1 (.take 2 (.br 5 (.take 6 (.br 7 .done .nobr)) .nobr))) .nobr))))) ac ?_
   simp only[tt,seval]
   all_goals repeat' first|refine xt ?_ ?_|refine mq ?_ ?_
   all_goals
    refine CallQ.intro (c3) ?_ ?_ ?_
    ·decide
    ·simp only[tt,seval,PB]
     decide
    rintro r os ⟨⟨Hk,Hs,rfl⟩,rfl⟩ hos
    simp only[tt,seval,PB,ap]
   all_goals
    refine fun G0=>?_
    refine⟨.ag (ap (cH 6 nn [(Expr.mk k1 p1 n1 v1 q1 m1 ks1 ss1),(Expr.mk k2 p2 n2 v2 q2 m2 ks2 ss2),(Expr.mk k3 p3 n3 v3 q3 m3 ks3 ss3)] []).row [G0::(Fk++(Fs++(Gk++(Gs++(Hk++Hs))))),[]]),[PB L (s4)],⟨⟨_,_,rfl⟩,rfl⟩,au ?_⟩
    simp only[tt,seval,mC,PB,cH,zVal,z0,ai,ap]
    first|done|exact lW
  |false=>
  rw[if_neg (by rw[c18];simp)] at h
  simp only[tt,seval,mN]
  refine cS (bt L hL hT s2 17 ⟨#[73,78]⟩ ac ha2) ?_ ?_<;>simp only[tt,seval,PB]
  cases c17:az L s2 17 with
  |true=>
   rw[if_pos c17] at h
   have hav:=cV (L:=L) (aB c17)
   have ci:=AH L hL hT ok okq hor hq (Expr.mk k1 p1 n1 v1 q1 m1 ks1 ss1) nn Fk Fs (adv s2) x s' h hav
   obtain⟨k2,p2,n2,v2,q2,m2,ks2,ss2⟩:=x
   simp only[ai,ap] at ci
   simp only[tt,seval,mM]
   refine AB ([G]) (ci) ?_ ?_ ?_ ?_
   ·decide
   ·simp only[tt,seval,PB]
   ·exact fun x=>by simp only[List.flatten_append,List.flatten_cons,List.flatten_nil,List.count_append,List.append_nil];omega
   rintro r os ⟨⟨Hk,Hs,rfl⟩,rfl⟩ hos
   simp only[tt,seval,PB]
   refine⟨.ag (ap ((Expr.mk k2 p2 n2 v2 q2 m2 ks2 ss2)).row [Hk,Hs]),[PB L (s')],⟨⟨Hk,Hs,by first|rfl|simp only[rW,ap,Val.row,lc]⟩,rfl⟩,au ?_⟩
   simp only[tt,seval,PB,ai,ap]
   first|done|exact lW
  |false=>
   rw[if_neg (by rw[c17];simp)] at h
   injection h with h;injection h with h1 h2;subst h1 h2
   simp only[tt,seval,mN]
   obtain⟨a2,b2⟩:=s2
   cases b2 with
   |true=>
    simp only[tt,seval]
    refine⟨.ag (ap ((Expr.mk k1 p1 n1 v1 q1 m1 ks1 ss1)).row [Fk,Fs]),[PB L (⟨a2,true⟩)],⟨⟨Fk,Fs,by first|rfl|simp only[rW,ap,Val.row,lc]⟩,rfl⟩,au ?_⟩
    simp only[tt,seval,PB,ai,ap]
    first|done|exact lW
   |false=>
    simp only[tt,seval]
    refine⟨.ag (ap ((Expr.mk k1 p1 n1 v1 q1 m1 ks1 ss1)).row [Fk,Fs]),[PB L (⟨a2,false||nn⟩)],⟨⟨Fk,Fs,by first|rfl|simp only[rW,ap,Val.row,lc]⟩,rfl⟩,au ?_⟩
    simp only[tt,seval,PB,ai,ap]
    first|done|exact lW
 ·rw[if_neg hop] at h
  split at h
  ·cases h
  rename_i z u hz
  injection h with h;injection h with h1 h2;subst h1 h2
  have hav:=cV (L:=L) (gU hop)
  obtain⟨k2,p2,n2,v2,q2,m2,ks2,ss2⟩:=z
  have c2:=hc _ _ _ hz hav
  rw[ai] at c2
  have cb:=fun Gk Gs=>AF (d5 L s1 4) (Expr.mk k1 p1 n1 v1 q1 m1 ks1 ss1) (Expr.mk k2 p2 n2 v2 q2 m2 ks2 ss2) Fk Fs Gk Gs
  simp only[ai,ap] at cb
  have e0:decide (¬((d5 L s1 4:Nat):Int)=0)=true:=aF aa
  have e0':(((d5 L s1 4:Nat):Int)=0)=False:=eq_false aa
  have e1:decide (¬d5 L s1 4=0)=true:=aF aa
  simp only[tt,seval,e0',e1,mM]
  refine dDrawn.intro [18] (.take 0 (.take 2 (.br 1 (.br 3 (.br 4 (.br 5 .done .nobr) .nobr) .nobr) (.br 3 (.take 1 (.br 4 (.br 5 .done .nobr) .nobr)) .nobr)))) ac ?_
  simp only[tt,seval]
  all_goals repeat' first|refine xt ?_ ?_|refine mq ?_ ?_
  all_goals
   refine CallQ.intro (c2) ?_ ?_ ?_
   ·decide
   ·simp only[tt,seval,PB]
    decide
   rintro r os ⟨⟨Gk,Gs,rfl⟩,rfl⟩ hos
   simp only[tt,seval,PB,ap]
  all_goals repeat' first|refine xt ?_ ?_|refine mq ?_ ?_
  all_goals
   refine AB ([G]) (cb Gk Gs) ?_ ?_ ?_ ?_
   ·decide
   ·simp only[tt,seval]
   ·exact fun x=>by simp only[List.flatten_append,List.flatten_cons,List.flatten_nil,List.count_append,List.append_nil];omega
   rintro r os ⟨rfl,Hk,Hs,rfl⟩ hos
   simp only[tt,seval,il,ai,ap]
  all_goals
   refine⟨.ag (ap (il (d5 L s1 4) (Expr.mk k1 p1 n1 v1 q1 m1 ks1 ss1) (Expr.mk k2 p2 n2 v2 q2 m2 ks2 ss2)).row [Hk,Hs]),[PB L (u)],⟨⟨Hk,Hs,by first|rfl|simp only[il,zVal,z0,ai,List.flatMap_nil,List.flatMap_cons,List.append_nil,List.length_nil,List.length_cons,ap,lc]⟩,rfl⟩,au ?_⟩
   simp only[tt,seval,PB,il,zVal,z0,ai,ap]
   first|done|exact lW
def Jj (L:List Tok) (m:PM Item):Prop:=∀s e s',m s=some (e,s')->s.a<=L.length->Cl Tryz.prog 274 [.c (.p 9000 0)] [PB L s] fun r os=>(∃F0 F1,r = .ag (ap (e).row [F0,F1]))/\os=[PB L s']
def Jk (L:List Tok) (m:PM SortKey):Prop:=∀s e s',m s=some (e,s')->s.a<=L.length->Cl Tryz.prog 277 [.c (.p 9000 0)] [PB L s] fun r os=>(∃F0 F1,r = .ag (ap (e).row [F0,F1]))/\os=[PB L s']
set_option maxHeartbeats 4000000 in
theorem pL (L:List Tok) (hL:L.length<=1048576) (hT:∀t∈L,t.text.size<=1048576) {f:Nat->PM Expr} (ok:∀lv,OkM (L:=L) (f lv)) (hf1:gJ L 57 (f 1)):Jj L (eb L f):=by
 intro s x s' h ha
 unfold eb at h
 refine am ah true Tryz.func274 rfl ac ?_
 simp only[Tryz.f274,tt,seval]
 refine cS (cR L hL hT s 42 ha) ?_ ?_<;>simp only[tt,seval,PB]
 cases c42:cu L s 42 with
 |true=>
  rw[if_pos c42] at h
  injection h with h;injection h with h1 h2;subst h1 h2
  simp only[tt,seval,mM]
  refine⟨.ag (ap (Item.mk true z0 zExpr z0).row [[],[]]),[PB L (adv s)],⟨⟨[],[],by first|rfl|simp only[Item.row_mk,Source.row_mk,SortKey.row_mk,rW,ap,Val.row,lc]⟩,rfl⟩,au ?_⟩
  simp only[tt,seval,Item.row_mk,mC,PB,zExpr,zVal,z0,ai,ap]
  first|done|exact uZ
 |false=>
 rw[if_neg (by rw[c42];simp)] at h
 simp only[tt,seval,mN]
 refine cS (iW L hL hT s 2 ha) ?_ ?_<;>simp only[tt,seval,PB]
 cases hK:kH L s 2 with
 |false=>
  simp only[tt,seval]
  have hsf:ez L s=false:=by unfold ez;rw[hK];rfl
  rw[if_neg (by rw[hsf];simp)] at h
  split at h
  ·cases h
  rename_i e s1 he
  injection h with h;injection h with h1 h2;subst h1 h2
  have ha1:=(ok 1 _ _ _ he).2.1 ha
  obtain⟨k1,p1,n1,v1,q1,m1,ks1,ss1⟩:=e
  have c1:=hf1 _ _ _ he ha
  rw[ai] at c1
  refine CallQ.intro (c1) ?_ ?_ ?_
  ·decide
  ·simp only[tt,seval,PB]
  rintro r os ⟨⟨Fk,Fs,rfl⟩,rfl⟩ hos
  simp only[tt,seval,PB,ap]
  refine dDrawn.intro [35] (.take 1 (.br 0 (.br 2 (.take 3 (.br 4 .done .nobr)) .nobr) (.br 2 (.take 0 (.take 3 (.br 4 .done .nobr))) .nobr))) ac ?_
  simp only[tt,seval]
  all_goals repeat' first|refine xt ?_ ?_|refine mq ?_ ?_
  all_goals
   refine cS (xu L hL hT s1 ha1) ?_ ?_
   ·simp only[tt,seval,PB]
    decide
   simp only[tt,seval,PB]
  all_goals
   refine⟨.ag (ap (Item.mk false z0 (Expr.mk k1 p1 n1 v1 q1 m1 ks1 ss1) (asM L s1).1).row [Fk,Fs]),[PB L ((asM L s1).2)],⟨⟨Fk,Fs,by first|rfl|simp only[Item.row_mk,Source.row_mk,SortKey.row_mk,rW,ap,Val.row,lc]⟩,rfl⟩,au ?_⟩
   simp only[tt,seval,Item.row_mk,mC,PB,z0,ai,ap]
   first|done|exact lW
 |true=>
  simp only[tt,seval]
  refine cS (pJ L hL hT s 1 5 ⟨#[46]⟩ aa ha) ?_ ?_<;>simp only[tt,seval,PB]
  cases h1:jL L s 1 5 ⟨#[46]⟩ with
  |false=>
   have h1':jL L s 1 (5:Nat) ⟨#[46]⟩=false:=h1
   simp only[tt,seval]
   have hsf:ez L s=false:=by unfold ez;rw[hK,h1];rfl
   rw[if_neg (by rw[hsf];simp)] at h
   split at h
   ·cases h
   rename_i e s1 he
   injection h with h;injection h with h1 h2;subst h1 h2
   have ha1:=(ok 1 _ _ _ he).2.1 ha
   obtain⟨k1,p1,n1,v1,q1,m1,ks1,ss1⟩:=e
   have c1:=hf1 _ _ _ he ha
   rw[ai] at c1
   refine CallQ.intro (c1) ?_ ?_ ?_
   ·decide
   ·simp only[tt,seval,PB]
   rintro r os ⟨⟨Fk,Fs,rfl⟩,rfl⟩ hos
   simp only[tt,seval,PB,ap]
   refine dDrawn.intro [35] (.take 1 (.br 0 (.br 2 (.take 3 (.br 4 .done .nobr)) .nobr) (.br 2 (.take 0 (.take 3 (.br 4 .done .nobr))) .nobr))) ac ?_
   simp only[tt,seval]
   all_goals repeat' first|refine xt ?_ ?_|refine mq ?_ ?_
   all_goals
    refine cS (xu L hL hT s1 ha1) ?_ ?_
    ·simp only[tt,seval,PB]
     decide
    simp only[tt,seval,PB]
   all_goals
    refine⟨.ag (ap (Item.mk false z0 (Expr.mk k1 p1 n1 v1 q1 m1 ks1 ss1) (asM L s1).1).row [Fk,Fs]),[PB L ((asM L s1).2)],⟨⟨Fk,Fs,by first|rfl|simp only[Item.row_mk,Source.row_mk,SortKey.row_mk,rW,ap,Val.row,lc]⟩,rfl⟩,au ?_⟩
    simp only[tt,seval,Item.row_mk,mC,PB,z0,ai,ap]
    first|done|exact lW
  |true=>
   have h1':jL L s 1 (5:Nat) ⟨#[46]⟩=true:=h1
   simp only[tt,seval]
   refine cS (pJ L hL hT s 2 5 ⟨#[42]⟩ aa ha) ?_ ?_<;>simp only[tt,seval,PB]
   cases h2:jL L s 2 5 ⟨#[42]⟩ with
   |false=>
    have h2':jL L s 2 (5:Nat) ⟨#[42]⟩=false:=h2
    simp only[tt,seval]
    have hsf:ez L s=false:=by unfold ez;rw[hK,h1,h2];rfl
    rw[if_neg (by rw[hsf];simp)] at h
    split at h
    ·cases h
    rename_i e s1 he
    injection h with h;injection h with h1 h2;subst h1 h2
    have ha1:=(ok 1 _ _ _ he).2.1 ha
    obtain⟨k1,p1,n1,v1,q1,m1,ks1,ss1⟩:=e
    have c1:=hf1 _ _ _ he ha
    rw[ai] at c1
    refine CallQ.intro (c1) ?_ ?_ ?_
    ·decide
    ·simp only[tt,seval,PB]
    rintro r os ⟨⟨Fk,Fs,rfl⟩,rfl⟩ hos
    simp only[tt,seval,PB,ap]
    refine dDrawn.intro [35] (.take 1 (.br 0 (.br 2 (.take 3 (.br 4 .done .nobr)) .nobr) (.br 2 (.take 0 (.take 3 (.br 4 .done .nobr))) .nobr))) ac ?_
    simp only[tt,seval]
    all_goals repeat' first|refine xt ?_ ?_|refine mq ?_ ?_
    all_goals
     refine cS (xu L hL hT s1 ha1) ?_ ?_
     ·simp only[tt,seval,PB]
      decide
     simp only[tt,seval,PB]
    all_goals
     refine⟨.ag (ap (Item.mk false z0 (Expr.mk k1 p1 n1 v1 q1 m1 ks1 ss1) (asM L s1).1).row [Fk,Fs]),[PB L ((asM L s1).2)],⟨⟨Fk,Fs,by first|rfl|simp only[Item.row_mk,Source.row_mk,SortKey.row_mk,rW,ap,Val.row,lc]⟩,rfl⟩,au ?_⟩
     simp only[tt,seval,Item.row_mk,mC,PB,z0,ai,ap]
     first|done|exact lW
   |true=>
    have h2':jL L s 2 (5:Nat) ⟨#[42]⟩=true:=h2
    simp only[tt,seval]
    have hst:ez L s=true:=by unfold ez;rw[hK,h1,h2];rfl
    rw[if_pos hst] at h
    injection h with h;injection h with h1 h2;subst h1 h2
    have l3:=(sV hst).2
    have l1:=jN hK
    refine cS (dB L hL hT s 2 ha) ?_ ?_<;>simp only[tt,seval,PB]
    rw[pe hK]
    have e3:IntKind.i64.wrap (((adv s).a:Int)+2)=((adv (adv (adv s))).a:Int):=by
     show IntKind.i64.wrap (((s.a+1:Nat):Int)+2)=((s.a+1+1+1:Nat):Int)
     rw[aI (n:=((s.a+1:Nat):Int)+2) aa aa];omega
    have e4:(adv s).b=(adv (adv (adv s))).b:=rfl
    simp only[seval,e3,e4]
    refine⟨.ag (ap (Item.mk true (bM L s) zExpr z0).row [[],[]]),[PB L (adv (adv (adv s)))],⟨⟨[],[],by first|rfl|simp only[Item.row_mk,Source.row_mk,SortKey.row_mk,rW,ap,Val.row,lc]⟩,rfl⟩,au ?_⟩
    simp only[tt,seval,Item.row_mk,mC,PB,zExpr,zVal,z0,ai,ap]
    first|done|exact uZ
theorem mY (L:List Tok) (hL:L.length<=1048576) (hT:∀t∈L,t.text.size<=1048576) (s:PS) (ha:s.a<=L.length):Cl Tryz.prog 293 [.c (.p 9000 0)] [PB L s] fun r os=>r = .ag (ap (sourceM L s).1.row [[]])/\os=[PB L (sourceM L s).2]:=by
 refine am ah true Tryz.func293 rfl ac ?_
 simp only[Tryz.f293,tt,seval]
 refine cS (dB L hL hT s 2 ha) ?_ ?_<;>simp only[tt,seval,PB]
 have ha1:=(Ok.mText (L:=L) 2 s).2.1 ha
 have he:sourceM L s=(.mk (mText L 2 s).1 (asM L (mText L 2 s).2).1 [],(asM L (mText L 2 s).2).2):=rfl
 rw[he]
 generalize (mText L 2 s).1=x at *
 generalize (mText L 2 s).2=u at *
 refine cS (xu L hL hT u ha1) ?_ ?_<;>simp only[tt,seval,PB]
 refine⟨.ag (ap (Source.mk x (asM L u).1 []).row [[]]),[PB L (asM L u).2],⟨rfl,rfl⟩,au ?_⟩
 simp only[tt,seval,PB,Source.row_mk,ap]
 first|done|exact uZ
def Jl (L:List Tok) (fn:FuncId) (m:PM (List Expr)):Prop:=∀s x s',m s=some (x,s')->s.a<=L.length->Cl Tryz.prog fn [.c (.p 9000 0)] [PB L s] fun r os=>(∃F,r = .c (.ow 29 x.length (x.flatMap Expr.row) (some F)))/\os=[PB L s']
theorem u7 (L:List Tok) (hL:L.length<=1048576) (hT:∀t∈L,t.text.size<=1048576) {f:Nat->PM Expr} (hf1:gJ L 57 (f 1)):Jl L 276 (eF L f):=by
 intro s x s' h ha
 unfold eF at h
 refine am ah true Tryz.func276 rfl ac ?_
 simp only[Tryz.f276,tt,seval]
 refine cS (bt L hL hT s 6 ⟨#[87,72,69,82,69]⟩ ac ha) ?_ ?_<;>simp only[tt,seval,PB]
 cases c6:az L s 6 with
 |true=>
  rw[if_pos c6] at h
  split at h
  ·cases h
  rename_i e s1 he
  injection h with h;injection h with h1 h2;subst h1 h2
  simp only[tt,seval,mM]
  obtain⟨k1,p1,n1,v1,q1,m1,ks1,ss1⟩:=e
  have c1:=hf1 _ _ _ he (cV (aB c6))
  rw[ai] at c1
  refine CallQ.intro (c1) ?_ ?_ ?_
  ·decide
  ·simp only[tt,seval,PB]
  rintro r os ⟨⟨Fk,Fs,rfl⟩,rfl⟩ hos
  simp only[tt,seval,PB,ap]
  refine⟨.c (.ow 29 [(Expr.mk k1 p1 n1 v1 q1 m1 ks1 ss1)].length ([(Expr.mk k1 p1 n1 v1 q1 m1 ks1 ss1)].flatMap Expr.row) (some (Fk++Fs))),[PB L s1],⟨⟨_,rfl⟩,rfl⟩,au ?_⟩
  simp only[tt,seval,PB,ai]
  first|done|exact Sb.refl _|exact IA
 |false=>
  rw[if_neg (by rw[c6];simp)] at h
  injection h with h;injection h with h1 h2;subst h1 h2
  simp only[tt,seval,mN]
  refine⟨.c (.ow 29 ([]:List Expr).length (([]:List Expr).flatMap Expr.row) (some [])),[PB L s],⟨⟨_,rfl⟩,rfl⟩,au ?_⟩
  simp only[tt,seval,PB]
  first|done|exact Sb.refl _|exact IA
set_option maxHeartbeats 2000000 in
theorem ra (L:List Tok) (hL:L.length<=1048576) (hT:∀t∈L,t.text.size<=1048576) {f:Nat->PM Expr} (ok:∀lv,OkM (L:=L) (f lv)) (hf1:gJ L 57 (f 1)):Jk L (eG L f):=by
 intro s x s' h ha
 unfold eG at h
 split at h
 ·cases h
 rename_i e s1 he
 have ha1:=(ok 1 _ _ _ he).2.1 ha
 obtain⟨k1,p1,n1,v1,q1,m1,ks1,ss1⟩:=e
 have c1:=hf1 _ _ _ he ha
 rw[ai] at c1
 refine am ah true Tryz.func277 rfl ac ?_
 simp only[Tryz.f277,tt,seval]
 refine CallQ.intro (c1) ?_ ?_ ?_
 ·decide
 ·simp only[tt,seval,PB]
 rintro r os ⟨⟨Fk,Fs,rfl⟩,rfl⟩ hos
 simp only[tt,seval,PB,ap]
 refine cS (bt L hL hT s1 9 ⟨#[65,83,67]⟩ ac ha1) ?_ ?_<;>simp only[tt,seval,PB]
 cases c9:az L s1 9 with
 |true=>
  rw[if_pos c9] at h
  injection h with h;injection h with h1 h2;subst h1 h2
  simp only[tt,seval,mM]
  refine⟨.ag (ap (SortKey.mk (Expr.mk k1 p1 n1 v1 q1 m1 ks1 ss1) false).row [Fk,Fs]),[PB L (adv s1)],⟨⟨Fk,Fs,by first|rfl|simp only[Item.row_mk,Source.row_mk,SortKey.row_mk,rW,ap,Val.row,lc]⟩,rfl⟩,au ?_⟩
  simp only[tt,seval,SortKey.row_mk,PB,ai,ap]
  first|done|exact lW
 |false=>
  rw[if_neg (by rw[c9];simp)] at h
  injection h with h;injection h with h1 h2;subst h1 h2
  simp only[tt,seval,mN]
  refine cS (bt L hL hT s1 10 ⟨#[68,69,83,67]⟩ ac ha1) ?_ ?_<;>simp only[tt,seval,PB]
  refine⟨.ag (ap (SortKey.mk (Expr.mk k1 p1 n1 v1 q1 m1 ks1 ss1) (az L s1 10)).row [Fk,Fs]),[PB L (tkIf (az L s1 10) s1)],⟨⟨Fk,Fs,by first|rfl|simp only[Item.row_mk,Source.row_mk,SortKey.row_mk,rW,ap,Val.row,lc]⟩,rfl⟩,au ?_⟩
  simp only[tt,seval,SortKey.row_mk,PB,ai,ap]
  first|done|exact lW
set_option maxHeartbeats 4000000 in
theorem qx (L:List Tok) (hL:L.length<=1048576) (hT:∀t∈L,t.text.size<=1048576) {f:Nat->PM Expr} (ok:∀lv,OkM (L:=L) (f lv)) (hf1:gJ L 57 (f 1)) (s:PS) (x:List Source) (s':PS) (h:cj L f (L.length+1) [(sourceM L s).1] (sourceM L s).2=some (x,s')) (ha:s.a<=L.length):Cl Tryz.prog 275 [.c (.p 9000 0)] [PB L s] fun r os=>(∃F,r = .c (.ow 134 x.length (x.flatMap Source.row) (some F)))/\os=[PB L s']:=by
 have c1:=mY L hL hT s ha
 have ha1:=(Ok.sourceM (L:=L) s).2.1 ha
 generalize (sourceM L s).2=s1 at *
 generalize (sourceM L s).1=sr1 at *
 obtain⟨tb1,sa1,on1⟩:=sr1
 rw[Source.row_mk] at c1
 refine am ah true Tryz.func275 rfl ac ?_
 simp only[Tryz.f275,tt,seval]
 refine cS (c1) ?_ ?_<;>simp only[tt,seval,PB,ap]
 refine dLoop.gh [.ren 7 31] ⟨ae,ae,?_⟩
 refine dLoop0.introR (fun f' Lo p=>∃(l:List Source) (v:PS) (n:Nat) (Fl Pl:List (List Nat)),f' 3 = .c (.s 31 l.length)/\cj L f n l v=some (x,s')/\v.a<=L.length/\l.length<=v.a+1/\Sb Fl.flatten Pl.flatten/\Lo=[(9000,.str (PB L v)),(31,.arr 134 (l).length ((l).flatMap Source.row) (some (Fl)))]/\p=some Pl) (fun _ Lo _=>L.length-Gy Lo) [(9000,.str (PB L s1)),(31,.arr 134 ([Source.mk tb1 sa1 on1]).length (([Source.mk tb1 sa1 on1]).flatMap Source.row) (some ([])))] (some []) ⟨by simp only[Source.row_mk,PB,List.flatMap_nil,List.flatMap_cons,List.append_nil,List.length_nil,List.length_cons];exact ak rfl (ak rfl (aq _)),PoSub.refl _,?_⟩ ?_
 ·simp only[tt,seval]
  exact⟨[Source.mk tb1 sa1 on1],s1,L.length+1,[],[],rfl,h,ha1,by simp,Sb.refl _,rfl,rfl⟩
 ·rintro g' Lo p ⟨l,v,n,Fl,Pl,h3,hm,hv,hml,hsb,rfl,rfl⟩
  simp only[tt,seval] at h3
  simp only[tt,seval]
  refine cS (cR L hL hT v 44 hv) ?_ ?_<;>simp only[tt,seval,PB,h3]
  cases n with
  |zero=>cases hm
  |succ n=>
  rw[cj] at hm
  cases c44:cu L v 44 with
  |true=>
   rw[if_pos c44] at hm
   have hav:=cV (L:=L) (bh c44)
   have hlt:=(bh c44).2
   have c2:=mY L hL hT (adv v) hav
   have o2:=Ok.sourceM (L:=L) (adv v)
   have o2a:v.a+1<=(sourceM L (adv v)).2.a:=o2.1
   have hw:=o2.2.1 hav
   generalize (sourceM L (adv v)).2=w at *
   generalize (sourceM L (adv v)).1=sr2 at *
   obtain⟨tb2,sa2,on2⟩:=sr2
   rw[Source.row_mk] at c2
   simp only[tt,seval,mM]
   refine cS (c2) ?_ ?_<;>simp only[tt,seval,PB,ap]
   refine sJ ?_
   refine⟨[.ren 16 31],ae,ae,?_⟩
   simp only[tt,seval]
   refine⟨[(9000,.str (PB L w)),(31,.arr 134 ((l++[Source.mk tb2 sa2 on2])).length (((l++[Source.mk tb2 sa2 on2])).flatMap Source.row) (some (Fl)))],some Pl,by simp only[Source.row_mk,PB,List.flatMap_nil,List.flatMap_cons,List.append_nil,List.length_nil,List.length_cons,List.flatMap_append,aA];exact ak rfl (ak rfl (aq _)),PoSub.refl _,⟨l++[Source.mk tb2 sa2 on2],w,n,Fl,Pl,by simp only[tt,seval,aA],hm,hw,by simp;omega,hsb,rfl,rfl⟩,?_⟩
   show L.length-((w.a:Int)).toNat<L.length-((v.a:Int)).toNat
   omega
  |false=>
   rw[if_neg (by rw[c44];simp)] at hm
   simp only[tt,seval,mN]
   refine cS (bt L hL hT v 4 ⟨#[74,79,73,78]⟩ ac hv) ?_ ?_<;>simp only[tt,seval,PB,h3]
   cases k4:az L v 4 with
   |true=>
    rw[if_pos k4] at hm
    simp only at hm
    split at hm
    ·cases hm
    rename_i e7 s7 he7
    have hav:=cV (L:=L) (aB k4)
    have hlt:=(aB k4).2
    have c2:=mY L hL hT (adv v) hav
    have o2:=Ok.sourceM (L:=L) (adv v)
    have o2a:v.a+1<=(sourceM L (adv v)).2.a:=o2.1
    have hw:=o2.2.1 hav
    generalize (sourceM L (adv v)).2=w at *
    generalize (sourceM L (adv v)).1=sr2 at *
    obtain⟨tb2,sa2,on2⟩:=sr2
    rw[Source.row_mk] at c2
    simp only[tt,seval,mM]
    refine cS (c2) ?_ ?_<;>simp only[tt,seval,PB,ap]
    refine cS (fh L hL hT w 5 ⟨#[79,78]⟩ ac hw) ?_ ?_<;>simp only[tt,seval,PB]
    have o7:Ok L w (must (az L w 5) w):=Ok.must fun h=>aB h
    have o7a:=o7.1
    have hw7:=o7.2.1 hw
    generalize must (az L w 5) w=w7 at *
    have o8:=ok 1 _ _ _ he7
    have o8a:=o8.1
    have hs7:=o8.2.1 hw7
    obtain⟨k7,p7,n7,x7,q7,m7,ks7,ss7⟩:=e7
    have c7:=hf1 _ _ _ he7 hw7
    rw[ai] at c7
    refine CallQ.intro (c7) ?_ ?_ ?_
    ·decide
    ·simp only[tt,seval,PB]
    rintro r os ⟨⟨Fk,Fs,rfl⟩,rfl⟩ hos
    simp only[tt,seval,PB,h3,ap]
    refine fun G=>?_
    refine sJ ?_
    refine⟨[],?_⟩
    refine⟨[(9000,.str (PB L s7)),(31,.arr 134 ((l++[Source.mk tb2 sa2 [(Expr.mk k7 p7 n7 x7 q7 m7 ks7 ss7)]])).length (((l++[Source.mk tb2 sa2 [(Expr.mk k7 p7 n7 x7 q7 m7 ks7 ss7)]])).flatMap Source.row) (some (Fl++(G::(Fk++Fs)))))],some (G::(Pl++(Fk++Fs))),by simp only[Source.row_mk,PB,ai,List.flatMap_nil,List.flatMap_cons,List.append_nil,List.length_nil,List.length_cons,List.flatMap_append,aA];exact ak rfl (ak rfl (aq _)),PoSub.refl _,⟨l++[Source.mk tb2 sa2 [(Expr.mk k7 p7 n7 x7 q7 m7 ks7 ss7)]],s7,n,_,_,by simp only[tt,seval,aA],hm,hs7,by simp;omega,fun x=>by have:=hsb x;simp only[List.flatten_append,List.flatten_cons,List.count_append] at this ⊢;omega,rfl,rfl⟩,?_⟩
    show L.length-((s7.a:Int)).toNat<L.length-((v.a:Int)).toNat
    omega
   |false=>
    rw[if_neg (by rw[k4];simp)] at hm
    injection hm with hm;injection hm with e1 e2;subst e1 e2
    simp only[tt,seval,mN]
    refine⟨.c (.ow 134 l.length (l.flatMap Source.row) (some Fl)),[PB L v],⟨⟨_,rfl⟩,rfl⟩,au ?_⟩
    simp only[tt,seval,PB]
    exact hsb
set_option maxHeartbeats 16000000 in
theorem ua (L:List Tok) (hL:L.length<=1048576) (hT:∀t∈L,t.text.size<=1048576) {f:Nat->PM Expr} (ok:∀lv,OkM (L:=L) (f lv)) (hf1:gJ L 57 (f 1)):GH L 256 (stepQ L f):=by
 intro s x s' h ha
 unfold stepQ at h
 simp only at h
 refine am ah true Tryz.func256 rfl ac ?_
 simp only[Tryz.f256,tt,seval]
 refine cS (fh L hL hT s 1 ⟨#[83,69,76,69,67,84]⟩ ac ha) ?_ ?_<;>simp only[tt,seval,PB]
 have o1:Ok L s (must (az L s 1) s):=Ok.must fun h=>aB h
 have ha1:=o1.2.1 ha
 generalize must (az L s 1) s=u1 at *
 refine cS (bt L hL hT u1 2 ⟨#[68,73,83,84,73,78,67,84]⟩ ac ha1) ?_ ?_<;>simp only[tt,seval,PB]
 have o2:Ok L u1 (tkIf (az L u1 2) u1):=Ok.tkIf fun h=>aB h
 have ha2:=o2.2.1 ha1
 generalize tkIf (az L u1 2) u1=u2 at *
 generalize az L u1 2=dist at *
 split at h
 ·cases h
 rename_i its u3 hits
 unfold eV at hits
 split at hits
 ·cases hits
 rename_i it1 v1 hit1
 have c1:=pL L hL hT ok hf1 _ _ _ hit1 ha2
 obtain⟨star1,qual1,⟨k1,p1,n1,w1,q1,m1,ks1,ss1⟩,as1⟩:=it1
 rw[Item.row_mk,ai] at c1
 have hav1:=(OkM.item ok _ _ _ hit1).2.1 ha2
 refine CallQ.intro (c1) ?_ ?_ ?_
 ·decide
 ·simp only[tt,seval,PB]
 rintro r os ⟨⟨F0,F1,rfl⟩,rfl⟩ hos
 simp only[tt,seval,PB,ap]
 refine dLoop.gh [.ren 11 20] ⟨ae,ae,?_⟩
 refine dLoop0.intro (fun f' Lo p=>∃(m:List Item) (v:PS) (n:Nat) (Fm Pl:List (List Nat)),gy L (eb L f) n m v=some (its,u3)/\v.a<=L.length/\m.length<=v.a+1/\Sb Fm.flatten Pl.flatten/\Lo=[(9000,.str (PB L v)),(3,.str [.v (.bool dist),.s 20 (m).length,.v (.slice none 0 0),.v (.slice none 0 0),.v (.slice none 0 0),.v (.int .i64 (-1))]),(20,.arr 132 (m).length ((m).flatMap Item.row) (some (Fm))),(2,.str [.v (.bool false),.v (.slice none 0 0),.v (.slice none 0 0),.v (.slice none 0 0),.v (.slice none 0 0),.v (.int .i64 0)])]/\p=some Pl) (fun _ Lo _=>L.length-Gy Lo) [(9000,.str (PB L v1)),(3,.str [.v (.bool dist),.s 20 ([(Item.mk star1 qual1 (Expr.mk k1 p1 n1 w1 q1 m1 ks1 ss1) as1)]).length,.v (.slice none 0 0),.v (.slice none 0 0),.v (.slice none 0 0),.v (.int .i64 (-1))]),(20,.arr 132 ([(Item.mk star1 qual1 (Expr.mk k1 p1 n1 w1 q1 m1 ks1 ss1) as1)]).length (([(Item.mk star1 qual1 (Expr.mk k1 p1 n1 w1 q1 m1 ks1 ss1) as1)]).flatMap Item.row) (some (F0++F1))),(2,.str [.v (.bool false),.v (.slice none 0 0),.v (.slice none 0 0),.v (.slice none 0 0),.v (.slice none 0 0),.v (.int .i64 0)])] (some (F0++F1)) ⟨by simp only[Item.row_mk,PB,ai,List.flatMap_nil,List.flatMap_cons,List.append_nil,List.length_nil,List.length_cons,lc];exact ak rfl (ak rfl (ak rfl (ak rfl (aq _)))),PoSub.refl _,?_⟩ ?_
 ·simp only[tt,seval]
  exact⟨[(Item.mk star1 qual1 (Expr.mk k1 p1 n1 w1 q1 m1 ks1 ss1) as1)],v1,L.length+1,F0++F1,F0++F1,hits,hav1,by simp,Sb.refl _,rfl,rfl⟩
 ·rintro g' Lo p ⟨m,v,n,Fm,Pl,hm,hv,hml,hsb,rfl,rfl⟩
  simp only[tt,seval]
  refine cS (cR L hL hT v 44 hv) ?_ ?_<;>simp only[tt,seval,PB]
  cases n with
  |zero=>cases hm
  |succ n=>
  rw[gy] at hm
  cases c44:cu L v 44 with
  |true=>
   rw[if_pos c44] at hm
   split at hm
   ·cases hm
   rename_i z w hz
   have hlt:=(bh c44).2
   have hav:=cV (L:=L) (bh c44)
   have o3:=OkM.item ok _ _ _ hz
   have o3a:v.a+1<=w.a:=o3.1
   have hw:=o3.2.1 hav
   have c2:=pL L hL hT ok hf1 _ _ _ hz hav
   obtain⟨star2,qual2,⟨k2,p2,n2,w2,q2,m2,ks2,ss2⟩,as2⟩:=z
   rw[Item.row_mk,ai] at c2
   simp only[tt,seval,mM]
   refine dDrawn.intro [18] (.take 0 (.take 2 (.br 1 (.br 3 (.br 4 (.br 5 (.take 6 (.br 7 .done .nobr)) .nobr) .nobr) .nobr) (.br 3 (.take 1 (.br 4 (.br 5 (.take 6 (.br 7 .done .nobr)) .nobr) .nobr)) .nobr)))) ac ?_
   simp only[tt,seval]
   all_goals repeat' first|refine xt ?_ ?_|refine mq ?_ ?_
   all_goals
    refine CallQ.intro (c2) ?_ ?_ ?_
    ·decide
    ·simp only[tt,seval,PB]
     decide
    rintro r os ⟨⟨F0,F1,rfl⟩,rfl⟩ hos
    simp only[tt,seval,PB,ap]
   all_goals repeat' first|refine GG ?_ ?_|refine AC ?_ ?_|refine AD ?_ ?_
   all_goals
    refine sJ ?_
   all_goals
    refine⟨[(9000,.str (PB L w)),(3,.str [.v (.bool dist),.s 20 ((m++[(Item.mk star2 qual2 (Expr.mk k2 p2 n2 w2 q2 m2 ks2 ss2) as2)])).length,.v (.slice none 0 0),.v (.slice none 0 0),.v (.slice none 0 0),.v (.int .i64 (-1))]),(20,.arr 132 ((m++[(Item.mk star2 qual2 (Expr.mk k2 p2 n2 w2 q2 m2 ks2 ss2) as2)])).length (((m++[(Item.mk star2 qual2 (Expr.mk k2 p2 n2 w2 q2 m2 ks2 ss2) as2)])).flatMap Item.row) (some (Fm++(F0++F1)))),(2,.str [.v (.bool false),.v (.slice none 0 0),.v (.slice none 0 0),.v (.slice none 0 0),.v (.slice none 0 0),.v (.int .i64 0)])],some (Pl++(F0++F1)),by simp only[Item.row_mk,PB,ai,List.flatMap_nil,List.flatMap_cons,List.append_nil,List.length_nil,List.length_cons,lc,List.flatMap_append,aA];exact ak rfl (ak rfl (ak rfl (ak rfl (aq _)))),PoSub.refl _,⟨m++[(Item.mk star2 qual2 (Expr.mk k2 p2 n2 w2 q2 m2 ks2 ss2) as2)],w,n,_,_,hm,hw,by simp;omega,by simp only[List.flatten_append];exact hsb.append (Sb.refl _),rfl,rfl⟩,?_⟩
    show L.length-((w.a:Int)).toNat<L.length-((v.a:Int)).toNat
    omega
  |false=>
   rw[if_neg (by rw[c44];simp)] at hm
   injection hm with hm;injection hm with e1 e2;subst e1 e2
   simp only[tt,seval,mN]
   refine cS (fh L hL hT v 3 ⟨#[70,82,79,77]⟩ ac hv) ?_ ?_<;>simp only[tt,seval,PB]
   have o4:Ok L v (must (az L v 3) v):=Ok.must fun h=>aB h
   have ha4:=o4.2.1 hv
   generalize must (az L v 3) v=u4 at *
   split at h
   ·cases h
   rename_i frs s4 hfrs
   have cf:=qx L hL hT ok hf1 u4 _ _ hfrs ha4
   have hs4:=(OkM.sources ok _ _ _ _ _ hfrs).2.1 ((Ok.sourceM (L:=L) u4).2.1 ha4)
   refine CallQ.intro (cf) ?_ ?_ ?_
   ·decide
   ·simp only[tt,seval,PB]
   rintro r os ⟨⟨Fr,rfl⟩,rfl⟩ hos
   simp only[tt,seval,PB]
   split at h
   ·cases h
   rename_i wh s5 hwh
   have hs5:=(OkM.wher ok _ _ _ hwh).2.1 hs4
   have cw:=u7 L hL hT hf1 _ _ _ hwh hs4
   refine CallQ.intro (cw) ?_ ?_ ?_
   ·decide
   ·simp only[tt,seval,PB]
   rintro r os ⟨⟨Fw,rfl⟩,rfl⟩ hos
   simp only[tt,seval,PB]
   refine cS (bt L hL hT s5 7 ⟨#[79,82,68,69,82]⟩ ac hs5) ?_ ?_<;>simp only[tt,seval,PB]
   split at h
   ·cases h
   rename_i ord s6 hord
   unfold eH at hord
   cases c7:az L s5 7 with
   |false=>
    rw[if_neg (by rw[c7];simp)] at hord
    injection hord with hord;injection hord with e1 e2;subst e1 e2
    simp only[tt,seval,mN]
    refine cS (bt L hL hT s5 11 ⟨#[76,73,77,73,84]⟩ ac hs5) ?_ ?_<;>simp only[tt,seval,PB]
    cases CA:az L s5 11 with
    |true=>
     have hlim:limitM L s5=mNum L (adv s5):=by rw[limitM,if_pos CA]
     rw[hlim] at h
     injection h with h;injection h with h1 h2;subst h1 h2
     simp only[tt,seval,mM]
     refine cS (iq L hL hT (adv s5) (cV (aB CA))) ?_ ?_<;>simp only[tt,seval,PB]
     generalize (mNum L (adv s5)).1=xn at *
     generalize (mNum L (adv s5)).2=sn at *
     refine fun G0 G1 G2=>?_
     refine⟨.ag (ap (Query.mk dist m frs wh ([]:List SortKey) xn).row [G0::Fm,G1::Fr,G2::Fw,[]]),[PB L (sn)],⟨⟨G0::Fm,G1::Fr,G2::Fw,[],by first|rfl|simp only[Item.row_mk,Source.row_mk,SortKey.row_mk,rW,ap,Val.row,lc]⟩,rfl⟩,au ?_⟩
     simp only[tt,seval,PB,bj,ap]
     exact fun x=>by have:=hsb x;simp only[List.flatten_append,List.flatten_cons,List.count_append] at this ⊢;omega
    |false=>
     have hlim:limitM L s5=(-1,s5):=by rw[limitM,if_neg (by rw[CA];simp)]
     rw[hlim] at h
     injection h with h;injection h with h1 h2;subst h1 h2
     simp only[tt,seval,mN]
     refine fun G0 G1 G2=>?_
     refine⟨.ag (ap (Query.mk dist m frs wh ([]:List SortKey) (-1)).row [G0::Fm,G1::Fr,G2::Fw,[]]),[PB L (s5)],⟨⟨G0::Fm,G1::Fr,G2::Fw,[],by first|rfl|simp only[Item.row_mk,Source.row_mk,SortKey.row_mk,rW,ap,Val.row,lc]⟩,rfl⟩,au ?_⟩
     simp only[tt,seval,PB,bj,ap]
     exact fun x=>by have:=hsb x;simp only[List.flatten_append,List.flatten_cons,List.count_append] at this ⊢;omega
   |true=>
    rw[if_pos c7] at hord
    simp only at hord
    split at hord
    ·cases hord
    rename_i z1 y1 hz1
    simp only[tt,seval,mM]
    have hav5:=cV (L:=L) (aB c7)
    refine cS (fh L hL hT (adv s5) 8 ⟨#[66,89]⟩ ac hav5) ?_ ?_<;>simp only[tt,seval,PB]
    have o9:Ok L (adv s5) (must (az L (adv s5) 8) (adv s5)):=Ok.must fun h=>aB h
    have hu9:=o9.2.1 hav5
    generalize must (az L (adv s5) 8) (adv s5)=u9 at *
    have c9:=ra L hL hT ok hf1 _ _ _ hz1 hu9
    have hy1:=(OkM.sort ok _ _ _ hz1).2.1 hu9
    obtain⟨⟨k9,p9,n9,x9,q9,m9,ks9,ss9⟩,de9⟩:=z1
    rw[SortKey.row_mk,ai] at c9
    refine CallQ.intro (c9) ?_ ?_ ?_
    ·decide
    ·simp only[tt,seval,PB]
    rintro r os ⟨⟨H0,H1,rfl⟩,rfl⟩ hos
    simp only[tt,seval,PB,ap]
    refine dLoop.gh [.ren 36 45] ⟨ae,ae,?_⟩
    refine dLoop0.intro (fun f' Lo p=>∃(l9:List SortKey) (v9:PS) (n9':Nat) (Fo Pl9:List (List Nat)),gy L (eG L f) n9' l9 v9=some (ord,s6)/\v9.a<=L.length/\l9.length<=v9.a+1/\Sb (Fm++(Fr++(Fw++Fo))).flatten Pl9.flatten/\Lo=[(9000,.str (PB L v9)),(3,.str [.v (.bool dist),.s 20 m.length,.s 10025 frs.length,.s 10028 wh.length,.s 45 (l9).length,.v (.int .i64 (-1))]),(20,.arr 132 m.length (m.flatMap Item.row) (some Fm)),(10025,.arr 134 frs.length (frs.flatMap Source.row) (some Fr)),(10028,.arr 29 wh.length (wh.flatMap Expr.row) (some Fw)),(45,.arr 136 (l9).length ((l9).flatMap SortKey.row) (some (Fo))),(2,.str [.v (.bool false),.v (.slice none 0 0),.v (.slice none 0 0),.v (.slice none 0 0),.v (.slice none 0 0),.v (.int .i64 0)])]/\p=some Pl9) (fun _ Lo _=>L.length-Gy Lo) [(9000,.str (PB L y1)),(3,.str [.v (.bool dist),.s 20 m.length,.s 10025 frs.length,.s 10028 wh.length,.s 45 ([(SortKey.mk (Expr.mk k9 p9 n9 x9 q9 m9 ks9 ss9) de9)]).length,.v (.int .i64 (-1))]),(20,.arr 132 m.length (m.flatMap Item.row) (some Fm)),(10025,.arr 134 frs.length (frs.flatMap Source.row) (some Fr)),(10028,.arr 29 wh.length (wh.flatMap Expr.row) (some Fw)),(45,.arr 136 ([(SortKey.mk (Expr.mk k9 p9 n9 x9 q9 m9 ks9 ss9) de9)]).length (([(SortKey.mk (Expr.mk k9 p9 n9 x9 q9 m9 ks9 ss9) de9)]).flatMap SortKey.row) (some (H0++H1))),(2,.str [.v (.bool false),.v (.slice none 0 0),.v (.slice none 0 0),.v (.slice none 0 0),.v (.slice none 0 0),.v (.int .i64 0)])] (some (Pl++Fr++Fw++(H0++H1))) ⟨by simp only[SortKey.row_mk,PB,ai,List.flatMap_nil,List.flatMap_cons,List.append_nil,List.length_nil,List.length_cons,lc];exact ak rfl (ak rfl (ak rfl (ak rfl (ak rfl (ak rfl (ak rfl (aq _))))))),PoSub.refl _,?_⟩ ?_
    ·simp only[tt,seval]
     exact⟨[(SortKey.mk (Expr.mk k9 p9 n9 x9 q9 m9 ks9 ss9) de9)],y1,L.length+1,H0++H1,_,hord,hy1,by simp,fun x=>by have:=hsb x;simp only[List.flatten_append,List.count_append] at this ⊢;omega,rfl,rfl⟩
    ·rintro g3 Lo p ⟨l9,v9,n9',Fo,Pl9,hm9,hv9,hml9,hsb9,rfl,rfl⟩
     simp only[tt,seval]
     refine cS (cR L hL hT v9 44 hv9) ?_ ?_<;>simp only[tt,seval,PB]
     cases n9' with
     |zero=>cases hm9
     |succ n9'=>
     rw[gy] at hm9
     cases c44:cu L v9 44 with
     |true=>
      rw[if_pos c44] at hm9
      split at hm9
      ·cases hm9
      rename_i za wa hza
      have hlt9:=(bh c44).2
      have hav9:=cV (L:=L) (bh c44)
      have oa:=OkM.sort ok _ _ _ hza
      have oaa:v9.a+1<=wa.a:=oa.1
      have hwa:=oa.2.1 hav9
      have ca:=ra L hL hT ok hf1 _ _ _ hza hav9
      obtain⟨⟨ka,pa,na,xa,qa,ma,ksa,ssa⟩,dea⟩:=za
      rw[SortKey.row_mk,ai] at ca
      simp only[tt,seval,mM]
      refine dDrawn.intro [43] (.take 0 (.take 2 (.br 1 (.br 3 (.br 4 (.br 5 (.take 6 (.br 7 .done .nobr)) .nobr) .nobr) .nobr) (.br 3 (.take 1 (.br 4 (.br 5 (.take 6 (.br 7 .done .nobr)) .nobr) .nobr)) .nobr)))) ac ?_
      simp only[tt,seval]
      all_goals repeat' first|refine xt ?_ ?_|refine mq ?_ ?_
      all_goals
       refine CallQ.intro (ca) ?_ ?_ ?_
       ·decide
       ·simp only[tt,seval,PB]
        decide
       rintro r os ⟨⟨F0,F1,rfl⟩,rfl⟩ hos
       simp only[tt,seval,PB,ap]
      all_goals repeat' first|refine GG ?_ ?_|refine AC ?_ ?_|refine AD ?_ ?_
      all_goals
       refine sJ ?_
      all_goals
       refine⟨[(9000,.str (PB L wa)),(3,.str [.v (.bool dist),.s 20 m.length,.s 10025 frs.length,.s 10028 wh.length,.s 45 ((l9++[(SortKey.mk (Expr.mk ka pa na xa qa ma ksa ssa) dea)])).length,.v (.int .i64 (-1))]),(20,.arr 132 m.length (m.flatMap Item.row) (some Fm)),(10025,.arr 134 frs.length (frs.flatMap Source.row) (some Fr)),(10028,.arr 29 wh.length (wh.flatMap Expr.row) (some Fw)),(45,.arr 136 ((l9++[(SortKey.mk (Expr.mk ka pa na xa qa ma ksa ssa) dea)])).length (((l9++[(SortKey.mk (Expr.mk ka pa na xa qa ma ksa ssa) dea)])).flatMap SortKey.row) (some (Fo++(F0++F1)))),(2,.str [.v (.bool false),.v (.slice none 0 0),.v (.slice none 0 0),.v (.slice none 0 0),.v (.slice none 0 0),.v (.int .i64 0)])],some (Pl9++(F0++F1)),by simp only[SortKey.row_mk,PB,ai,List.flatMap_nil,List.flatMap_cons,List.append_nil,List.length_nil,List.length_cons,lc,List.flatMap_append,aA];exact ak rfl (ak rfl (ak rfl (ak rfl (ak rfl (ak rfl (ak rfl (aq _))))))),PoSub.refl _,⟨l9++[(SortKey.mk (Expr.mk ka pa na xa qa ma ksa ssa) dea)],wa,n9',_,_,hm9,hwa,by simp;omega,fun x=>by have:=hsb9 x;simp only[List.flatten_append,List.count_append] at this ⊢;omega,rfl,rfl⟩,?_⟩
       show L.length-((wa.a:Int)).toNat<L.length-((v9.a:Int)).toNat
       omega
     |false=>
      rw[if_neg (by rw[c44];simp)] at hm9
      injection hm9 with hm9;injection hm9 with e1 e2;subst e1 e2
      simp only[tt,seval,mN]
      refine cS (bt L hL hT v9 11 ⟨#[76,73,77,73,84]⟩ ac hv9) ?_ ?_<;>simp only[tt,seval,PB]
      cases CA:az L v9 11 with
      |true=>
       have hlim:limitM L v9=mNum L (adv v9):=by rw[limitM,if_pos CA]
       rw[hlim] at h
       injection h with h;injection h with h1 h2;subst h1 h2
       simp only[tt,seval,mM]
       refine cS (iq L hL hT (adv v9) (cV (aB CA))) ?_ ?_<;>simp only[tt,seval,PB]
       generalize (mNum L (adv v9)).1=xn at *
       generalize (mNum L (adv v9)).2=sn at *
       refine fun G0 G1 G2 G3=>?_
       refine⟨.ag (ap (Query.mk dist m frs wh l9 xn).row [G0::Fm,G1::Fr,G2::Fw,G3::Fo]),[PB L (sn)],⟨⟨G0::Fm,G1::Fr,G2::Fw,G3::Fo,by first|rfl|simp only[Item.row_mk,Source.row_mk,SortKey.row_mk,rW,ap,Val.row,lc]⟩,rfl⟩,au ?_⟩
       simp only[tt,seval,PB,bj,ap]
       exact fun x=>by have:=hsb9 x;simp only[List.flatten_append,List.flatten_cons,List.count_append] at this ⊢;omega
      |false=>
       have hlim:limitM L v9=(-1,v9):=by rw[limitM,if_neg (by rw[CA];simp)]
       rw[hlim] at h
       injection h with h;injection h with h1 h2;subst h1 h2
       simp only[tt,seval,mN]
       refine fun G0 G1 G2 G3=>?_
       refine⟨.ag (ap (Query.mk dist m frs wh l9 (-1)).row [G0::Fm,G1::Fr,G2::Fw,G3::Fo]),[PB L (v9)],⟨⟨G0::Fm,G1::Fr,G2::Fw,G3::Fo,by first|rfl|simp only[Item.row_mk,Source.row_mk,SortKey.row_mk,rW,ap,Val.row,lc]⟩,rfl⟩,au ?_⟩
       simp only[tt,seval,PB,bj,ap]
       exact fun x=>by have:=hsb9 x;simp only[List.flatten_append,List.flatten_cons,List.count_append] at this ⊢;omega
theorem Dy (L:List Tok) (hL:L.length<=1048576) (hT:∀t∈L,t.text.size<=1048576):∀k,gJ L 57 ((pP L k).1 1)/\gJ L 128 ((pP L k).1 2)/\gJ L 190 ((pP L k).1 3)/\gJ L 224 ((pP L k).1 4)/\gJ L 240 ((pP L k).1 5)/\gJ L 254 ((pP L k).1 6)/\gJ L 272 ((pP L k).1 7)/\gJ L 288 ((pP L k).1 8)/\gJ L 299 ((pP L k).1 9)/\GH L 256 (pP L k).2
 |0=>⟨fun _ _ _ h=>(by cases h),fun _ _ _ h=>(by cases h),fun _ _ _ h=>(by cases h),fun _ _ _ h=>(by cases h),fun _ _ _ h=>(by cases h),fun _ _ _ h=>(by cases h),fun _ _ _ h=>(by cases h),fun _ _ _ h=>(by cases h),fun _ _ _ h=>(by cases h),fun _ _ _ h=>(by cases h)⟩
 |k+1=>by
  obtain⟨h0,h1,h2,h3,h4,h5,h6,h7,h8,hq⟩:=Dy L hL hT k
  obtain⟨ok,okq⟩:=la (L:=L) k
  have e9:(pP L (k+1)).1 9=dA L (pP L k).1 (pP L k).2:=rfl
  refine⟨?_,?_,?_,?_,?_,?_,?_,?_,?_,ua L hL hT ok h0⟩
  ·show gJ L _ (stepE L (pP L k).1 (pP L k).2 1);exact AG L hL hT (ok 2) h1
  ·show gJ L _ (stepE L (pP L k).1 (pP L k).2 2);exact yz L hL hT (ok 3) h2
  ·show gJ L _ (stepE L (pP L k).1 (pP L k).2 3);exact yC L hL hT h2 h3
  ·show gJ L _ (stepE L (pP L k).1 (pP L k).2 4);exact yF L hL hT ok okq h0 h4 hq
  ·show gJ L _ (stepE L (pP L k).1 (pP L k).2 5);exact yA L hL hT (ok 6) h5
  ·show gJ L _ (stepE L (pP L k).1 (pP L k).2 6);exact yB L hL hT (ok 7) h6
  ·show gJ L _ (stepE L (pP L k).1 (pP L k).2 7);exact vO L hL hT (ok 8) h7
  ·show gJ L _ (stepE L (pP L k).1 (pP L k).2 8);exact yD L hL hT h7 h8
  ·rw[e9];exact vP L hL hT (ok 1) okq h0 hq
theorem GJ (L:List Tok) (hL:L.length<=1048576) (hT:∀t∈L,t.text.size<=1048576):gJ L 57 (bA L 1):=(Dy L hL hT (pD L)).1
theorem kh (L:List Tok) (hL:L.length<=1048576) (hT:∀t∈L,t.text.size<=1048576):Cl Tryz.prog 18 [.c (.sl L.length (L.flatMap Tok.row) none)] [] fun r _=>∃Fk Fs,r = .tu [(ap (cI L).1.row [Fk,Fs],false),([.v (.int .i64 (cI L).2)],true)]:=by
 obtain⟨x,s1,hx⟩:=lY (L:=L) 1 aa aa s0
 have ha:=(sX (L:=L) 1 _ _ _ hx).2.1 (Nat.zero_le _)
 have c1:=GJ L hL hT _ _ _ hx (Nat.zero_le _)
 have ht:cI L=lb L zExpr (some (x,s1)):=by unfold cI;rw[hx]
 rw[ht]
 obtain⟨k1,p1,n1,v1,q1,m1,ks1,ss1⟩:=x
 rw[ai] at c1
 refine am ah true Tryz.func18 rfl ac ?_
 simp only[Tryz.f18,tt,seval]
 refine CallQ.intro (c1) ?_ ?_ ?_
 ·decide
 ·simp only[tt,seval,PB,s0]
 rintro r os ⟨⟨Fk,Fs,rfl⟩,rfl⟩ hos
 simp only[tt,seval,PB,s0,ap]
 refine cS (ER L hL hT s1 ha) ?_ ?_<;>simp only[tt,seval,PB]
 refine ab (fun hb=>?_) (fun hb=>?_)
 ·have e:lb L zExpr (some ((Expr.mk k1 p1 n1 v1 q1 m1 ks1 ss1),s1))=(zExpr,nR L s1):=if_pos hb
  rw[e]
  refine⟨.tu [(ap zExpr.row [[],[]],false),([.v (.int .i64 (nR L s1))],true)],[],⟨[],[],rfl⟩,au ?_⟩
  simp only[tt,seval,mC,zExpr,zVal,z0,ai,ap]
  first|done|exact IP
 ·have e:lb L zExpr (some ((Expr.mk k1 p1 n1 v1 q1 m1 ks1 ss1),s1))=((Expr.mk k1 p1 n1 v1 q1 m1 ks1 ss1),-1):=if_neg aa
  rw[e]
  refine⟨.tu [(ap (Expr.mk k1 p1 n1 v1 q1 m1 ks1 ss1).row [Fk,Fs],false),([.v (.int .i64 (-1))],true)],[],⟨Fk,Fs,rfl⟩,au ?_⟩
  simp only[tt,seval,ai,ap]
  first|done|exact lW
end Go.Proofs.YtoegnikpokgbfaaGreatDoor
