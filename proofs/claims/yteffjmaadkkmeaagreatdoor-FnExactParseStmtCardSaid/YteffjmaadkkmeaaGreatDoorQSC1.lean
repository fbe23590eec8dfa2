/-
  The reference's parser, first half.
  Conditions: none.
-/
import Derived.Test.YteffjmaadkkmeaaGreatDoorQSF
set_option linter.unusedVariables false
set_option linter.unusedSimpArgs false
set_option linter.unusedSectionVars false
set_option maxRecDepth 8000
namespace Go.Proofs.YteffjmaadkkmeaaGreatDoor
open Go Go.Dv
open Go.Vc (D eb ec dK bN)
def PB (L:List Tok) (s:PS):List C:=[.sl L.length (L.flatMap Tok.row) none,.v (.int .i64 s.a),.v (.bool s.b)]
def pz (L:List Tok) (s:PS) (k:Nat):Tok:=(jz L s k).getD ⟨0,⟨#[]⟩,0⟩
theorem Ap (L:List Tok) (s:PS) (k:Nat) (kind:Int) (x:ByteArray) (h:kind≠0):(decide ((pz L s k).kind=kind)&&decide ((pz L s k).text=x))=ll L s k kind x:=by
 unfold pz ll
 cases jz L s k with
 |none=>simp [Ne.symm h]
 |some t=>rfl
theorem EX (L:List Tok) (s:PS) (kind:Int) (h:kind≠0):(decide ((pz L s 0).kind=kind)&&cj (pz L s 0))=nz L s kind:=by
 unfold pz nz
 cases jz L s 0 with
 |none=>simp [Ne.symm h]
 |some t=>rfl
theorem xT (L:List Tok) (s:PS):(pz L s 0).text=cH L s:=by
 unfold pz cH
 cases jz L s 0 with
 |none=>rfl
 |some t=>rfl
theorem uM {L:List Tok} (hL:L.length≤1048576) (hT:∀t∈L,t.text.size≤1048576) (s:PS) (k:Nat):(pz L s k).text.size≤1048576:=by
 unfold pz
 cases h:jz L s k with
 |none=>exact Nat.zero_le _
 |some t=>
  unfold jz at h
  split at h
  ·cases h
  ·exact hT t (List.mem_of_getElem? h)
theorem gD (L:List Tok) (hL:L.length≤1048576) (hT:∀t∈L,t.text.size≤1048576) (s:PS) (k:Nat) (hk:k≤100) (ha:s.a≤L.length):Cl Tryz.prog 152 [.c (.p 9000 0),vi k] [PB L s] fun r os=>r = .ag (an (pz L s k).row)∧os=[PB L s]:=by
 obtain⟨a,b⟩:=s
 have ha:a≤L.length:=ha
 cases b with
 |true=>
  have e:pz L ⟨a,true⟩ k=⟨0,⟨#[]⟩,0⟩:=rfl
  rw[e]
  refine ab aa false Tryz.func152 rfl (by kernel_rfl) ?_
  simp only[Tryz.f152,tt,seval]
  refine dDrawn.intro [] (gG [0,2,4,6,8,10,12,14,16,18,20,22,24,26,28,30,32,34]) (by kernel_rfl) ?_
  simp only[tt,seval]
  simp only[tt,seval,PB]
  refine⟨_,[PB L ⟨a,true⟩],⟨rfl,rfl⟩,aj ?_⟩
  simp only[tt,seval,PB,Tok.row]
  rfl
 |false=>
  refine ab aa false Tryz.func152 rfl (by kernel_rfl) ?_
  simp only[Tryz.f152,tt,seval]
  refine dDrawn.intro [] (gG [0,2,4,6,8,10,12,14,16,18,20,22,24,26,28,30,32,34]) (by kernel_rfl) ?_
  simp only[tt,seval]
  simp only[tt,seval,PB]
  rw[ak (n:=(a:Int)+k) (by omega) (by omega)]
  refine fun _=>And.intro (fun hge=>?_) (fun hlt=>?_)
  ·have e:pz L ⟨a,false⟩ k=⟨0,⟨#[]⟩,0⟩:=by
    show (L[a+k]?).getD _=_
    rw[List.getElem?_eq_none_iff.2 (by omega)];rfl
   rw[e]
   refine⟨_,[PB L ⟨a,false⟩],⟨rfl,rfl⟩,aj ?_⟩
   simp only[tt,seval,PB,Tok.row]
   rfl
  ·have hlt:a+k<L.length:=by omega
   have e:pz L ⟨a,false⟩ k=L[a+k]:=by
    show (L[a+k]?).getD _=_
    rw[List.getElem?_eq_getElem hlt];rfl
   rw[e]
   refine dDrawn.intro [] (gG [0,2,4,6,8,10,12,14,16,18,20,22,25]) (by kernel_rfl) ?_
   simp only[tt,seval]
   try simp only[tt,seval]
   rw[ak (n:=(a:Int)+k) (by omega) (by omega)]
   have e2:((a:Int)+(k:Int)).toNat=a+k:=by omega
   simp only[e2]
   refine⟨by omega,by omega,_,ax Tok.row_len (List.getElem?_eq_getElem (by omega)),Tok.ne _ _,?_⟩
   simp only[tt,seval,Tok.tk,Tok.row]
   refine⟨_,[PB L ⟨a,false⟩],⟨rfl,rfl⟩,aj ?_⟩
   simp only[tt,seval,PB,Tok.row]
theorem dE (L:List Tok) (hL:L.length≤1048576) (hT:∀t∈L,t.text.size≤1048576) (s:PS) (k:Nat) (h1:1≤k) (h2:k≤28) (ha:s.a≤L.length):Cl Tryz.prog 94 [.c (.p 9000 0),vi k] [PB L s] fun r os=>r=vb (al L s k)∧os=[PB L s]:=by
 rw[show al L s k=_ from (Ap L s 0 1 (kw k) (by decide)).symm]
 refine ab aa false Tryz.func94 rfl (by kernel_rfl) ?_
 simp only[Tryz.f94,tt,seval]
 refine cS (gD L hL hT s 0 (by omega) ha) (by decide) ?_ ?_<;>simp only[tt,seval,PB,Tok.row]
 refine dDrawn.intro [] (gG [0,2,4,6,8,10,12,15,16,18,20]) (by kernel_rfl) ?_
 simp only[tt,seval]
 try simp only[tt,seval,PB,Tok.row]
 generalize pz L s 0=t at *
 by_cases hk:t.kind=1
 ·simp only[tt,seval,decide_eq_true hk]
  refine cZ (zh k h1 h2) (by decide) ?_ ?_<;>simp only[tt,seval,PB,Tok.row]
  refine⟨_,[PB L s],⟨rfl,rfl⟩,aj ?_⟩
  simp only[tt,seval,PB]
 ·simp only[tt,seval,decide_eq_false hk]
  refine⟨_,[PB L s],⟨rfl,rfl⟩,aj ?_⟩
  simp only[tt,seval,PB]
theorem zn (L:List Tok) (hL:L.length≤1048576) (hT:∀t∈L,t.text.size≤1048576) (s:PS) (x:ByteArray) (ha:s.a≤L.length):Cl Tryz.prog 88 [.c (.p 9000 0),vs x] [PB L s] fun r os=>r=vb (ll L s 0 5 x)∧os=[PB L s]:=by
 rw[show ll L s 0 5 x=_ from (Ap L s 0 5 x (by decide)).symm]
 refine ab aa false Tryz.func88 rfl (by kernel_rfl) ?_
 simp only[Tryz.f88,tt,seval]
 refine cS (gD L hL hT s 0 (by omega) ha) (by decide) ?_ ?_<;>simp only[tt,seval,PB,Tok.row]
 generalize pz L s 0=t at *
 by_cases hk:t.kind=5
 ·simp only[tt,seval,decide_eq_true hk]
  refine⟨_,[PB L s],⟨rfl,rfl⟩,aj ?_⟩
  simp only[tt,seval,PB]
 ·simp only[tt,seval,decide_eq_false hk]
  refine⟨_,[PB L s],⟨rfl,rfl⟩,aj ?_⟩
  simp only[tt,seval,PB]
theorem jR (L:List Tok) (hL:L.length≤1048576) (hT:∀t∈L,t.text.size≤1048576) (s:PS) (k:Nat) (h1:1≤k) (ha:s.a≤L.length):Cl Tryz.prog 153 [.c (.p 9000 0),vi k] [PB L s] fun r os=>r=vb (nz L s k)∧os=[PB L s]:=by
 rw[show nz L s k=_ from (EX L s k (by omega)).symm]
 refine ab aa false Tryz.func153 rfl (by kernel_rfl) ?_
 simp only[Tryz.f153,tt,seval]
 refine cS (gD L hL hT s 0 (by omega) ha) (by decide) ?_ ?_<;>simp only[tt,seval,PB,Tok.row]
 have hs:=uM hL hT s 0
 generalize pz L s 0=t at *
 by_cases hk:t.kind=k
 ·simp only[tt,seval,decide_eq_true hk]
  refine cZ (fm t hs) (by decide) ?_ ?_<;>simp only[tt,seval,PB,Tok.row]
  refine⟨_,[PB L s],⟨rfl,rfl⟩,aj ?_⟩
  simp only[tt,seval,PB]
 ·simp only[tt,seval,decide_eq_false hk]
  refine⟨_,[PB L s],⟨rfl,rfl⟩,aj ?_⟩
  simp only[tt,seval,PB]
theorem aS (L:List Tok) (hL:L.length≤1048576) (hT:∀t∈L,t.text.size≤1048576) (s:PS) (c:Bool) (hc:c=true→s.b=false∧s.a<L.length):Cl Tryz.prog 89 [.c (.p 9000 0),vb c] [PB L s] fun r os=>r = .tu []∧os=[PB L (must c s)]:=by
 obtain⟨a,b⟩:=s
 cases c with
 |true=>
  obtain⟨rfl,ha⟩:=hc rfl
  have ha:a<L.length:=ha
  refine ab aa false Tryz.func89 rfl (by kernel_rfl) ?_
  simp only[Tryz.f89,tt,seval]
  simp only[tt,seval,PB]
  rw[ak (n:=(a:Int)+1) (by omega) (by omega)]
  refine⟨_,[PB L ⟨a+1,false⟩],⟨rfl,rfl⟩,aj ?_⟩
  simp only[tt,seval,PB]
  rfl
 |false=>
  refine ab aa false Tryz.func89 rfl (by kernel_rfl) ?_
  simp only[Tryz.f89,tt,seval]
  simp only[tt,seval,PB]
  refine⟨_,[PB L ⟨a,true⟩],⟨rfl,rfl⟩,aj ?_⟩
  simp only[tt,seval,PB]
theorem bi (L:List Tok) (hL:L.length≤1048576) (hT:∀t∈L,t.text.size≤1048576) (s:PS) (k:Nat) (h1:1≤k) (h2:k≤28) (ha:s.a≤L.length):Cl Tryz.prog 86 [.c (.p 9000 0),vi k] [PB L s] fun r os=>r=vb (al L s k)∧os=[PB L (tkIf (al L s k) s)]:=by
 refine ab aa false Tryz.func86 rfl (by kernel_rfl) ?_
 simp only[Tryz.f86,tt,seval]
 refine cS (dE L hL hT s k h1 h2 ha) (by decide) ?_ ?_<;>simp only[tt,seval,PB]
 cases hk:al L s k with
 |true=>
  simp only[tt,seval]
  refine cS (aS L hL hT s true (fun _=>ao hk)) (by decide) ?_ ?_<;>simp only[tt,seval,PB]
  refine⟨_,[PB L (adv s)],⟨rfl,rfl⟩,aj ?_⟩
  simp only[tt,seval,PB,must]
 |false=>
  simp only[tt,seval,Bool.false_eq_true]
  refine⟨_,[PB L s],⟨rfl,rfl⟩,aj ?_⟩
  simp only[tt,seval,PB]
theorem dA (L:List Tok) (hL:L.length≤1048576) (hT:∀t∈L,t.text.size≤1048576) (s:PS) (k:Nat) (h1:1≤k) (ha:s.a≤L.length):Cl Tryz.prog 100 [.c (.p 9000 0),vi k] [PB L s] fun r os=>r=vs (mText L k s).1∧os=[PB L (mText L k s).2]:=by
 refine ab aa false Tryz.func100 rfl (by kernel_rfl) ?_
 simp only[Tryz.f100,tt,seval]
 refine cS (gD L hL hT s 0 (by omega) ha) (by decide) ?_ ?_<;>simp only[tt,seval,PB,Tok.row]
 refine cS (jR L hL hT s k h1 ha) (by decide) ?_ ?_<;>simp only[tt,seval,PB,Tok.row]
 refine cS (aS L hL hT s (nz L s k) (fun h=>i6 h)) (by decide) ?_ ?_<;>simp only[tt,seval,PB,Tok.row]
 cases hk:nz L s k with
 |true=>
  obtain⟨hb,_⟩:=i6 hk
  simp only[tt,seval,must,adv,hb]
  refine⟨vs (pz L s 0).text,[PB L (adv s)],⟨?_,?_⟩,aj ?_⟩
  ·rw[mText,if_pos hk,xT]
  ·rw[mText,if_pos hk];rfl
  ·simp only[tt,seval,PB,adv,hb]
 |false=>
  simp only[tt,seval,must,fl]
  refine⟨vs ⟨#[]⟩,[PB L (fl s)],⟨?_,?_⟩,aj ?_⟩
  ·rw[mText,if_neg (by rw[hk];simp)]
  ·rw[mText,if_neg (by rw[hk];simp)];rfl
  ·simp only[tt,seval,PB,fl]
theorem di (s:PS):tkIf true s=adv s:=rfl
theorem dj (s:PS):tkIf false s=s:=rfl
theorem cT (s:PS):must true s=adv s:=rfl
theorem dr (s:PS):must false s=fl s:=rfl
def mT (L:List Tok) (fn:FuncId) (args:List S) (m:PM Expr):Prop:=∀s e s',m s=some (e,s')→s.a≤L.length→Cl Tryz.prog fn (.c (.p 9000 0)::args) [PB L s] fun r os=>r = .ag (an e.row)∧os=[PB L s']
def Aq (L:List Tok) (fn:FuncId) (m:PM Query):Prop:=∀s e s',m s=some (e,s')→s.a≤L.length→Cl Tryz.prog fn [.c (.p 9000 0)] [PB L s] fun r os=>r = .ag (an e.row)∧os=[PB L s']
theorem kB {L:List Tok} (hL:L.length≤1048576) (hT:∀t∈L,t.text.size≤1048576) (s:PS):(cH L s).size≤1048576:=by
 rw[←xT];exact uM hL hT s 0
theorem bd {L:List Tok} {s:PS} (h:s.b=false∧s.a<L.length):(adv s).a≤L.length:=h.2
theorem kD {L:List Tok} {s:PS} {k:Int} (h:nz L s k=true):mText L k s=(cH L s,adv s):=by rw[mText,if_pos h]
theorem qm {L:List Tok} {s:PS} {k:Nat} {c:UInt8} (h:al L s k=true):be L s c=false:=by
 unfold al ll at h
 unfold be ll
 cases ht:jz L s 0 with
 |none=>rfl
 |some t=>
  rw[ht] at h
  simp only[Bool.and_eq_true,decide_eq_true_eq] at h
  simp [h.1]
theorem Cu:ByteArray.empty=⟨#[]⟩:=rfl
theorem rW:type_of% (And.intro @Cu (And.intro @PB.eq_1 (And.intro @bM.eq_1 (And.intro @cg.eq_1 (And.intro @aZ.eq_1 (And.intro @eY.eq_1 (And.intro @bJ.eq_1 (And.intro @aK.eq_1 (And.intro @dW.eq_1 (And.intro @z0.eq_1 (And.intro @Expr.row_mk (And.intro @Query.row_mk (And.intro @List.flatMap_nil.{0,0} (And.intro @List.flatMap_cons.{0,0} (And.intro @List.append_nil.{0} (And.intro @List.length_nil.{0} @List.length_cons.{0})))))))))))))))):=And.intro @Cu (And.intro @PB.eq_1 (And.intro @bM.eq_1 (And.intro @cg.eq_1 (And.intro @aZ.eq_1 (And.intro @eY.eq_1 (And.intro @bJ.eq_1 (And.intro @aK.eq_1 (And.intro @dW.eq_1 (And.intro @z0.eq_1 (And.intro @Expr.row_mk (And.intro @Query.row_mk (And.intro @List.flatMap_nil.{0,0} (And.intro @List.flatMap_cons.{0,0} (And.intro @List.append_nil.{0} (And.intro @List.length_nil.{0} @List.length_cons.{0})))))))))))))))
theorem uN (s:ByteArray):Cl Tryz.prog 154 [vs s] [] fun r _=>r = .ag (an (Val.mk 2 0 s).row):=by
 refine ab aa false Tryz.func154 rfl (by kernel_rfl) ?_
 simp only[Tryz.f154,tt,seval]
 refine⟨.ag (an (Val.mk 2 0 s).row),[],rfl,ac rfl⟩
theorem uO:Cl Tryz.prog 155 [vb true] [] fun r _=>r = .ag (an (Val.mk 3 1 z0).row):=by
 refine ab aa false Tryz.func155 rfl (by kernel_rfl) ?_
 simp only[Tryz.f155,tt,seval]
 refine⟨.ag (an (Val.mk 3 1 z0).row),[],rfl,aj ?_⟩
 simp only[tt,seval,Val.row,z0,Cu]
theorem uP:Cl Tryz.prog 155 [vb false] [] fun r _=>r = .ag (an (Val.mk 3 0 z0).row):=by
 refine ab aa false Tryz.func155 rfl (by kernel_rfl) ?_
 simp only[Tryz.f155,tt,seval]
 refine⟨.ag (an (Val.mk 3 0 z0).row),[],rfl,aj ?_⟩
 simp only[tt,seval,Val.row,z0,Cu]
theorem bK (L:List Tok) (hL:L.length≤1048576) (hT:∀t∈L,t.text.size≤1048576) (s:PS) (c:UInt8) (ha:s.a≤L.length):Cl Tryz.prog 88 [.c (.p 9000 0),vs ⟨#[c]⟩] [PB L s] fun r os=>r=vb (be L s c)∧os=[PB L s]:=zn L hL hT s ⟨#[c]⟩ ha
theorem lV (L:List Tok) (hL:L.length≤1048576) (hT:∀t∈L,t.text.size≤1048576) (s:PS) (ha:s.a≤L.length):Cl Tryz.prog 162 [.c (.p 9000 0)] [PB L s] fun r os=>r=vs (asM L s).1∧os=[PB L (asM L s).2]:=by
 refine ab aa false Tryz.func162 rfl (by kernel_rfl) ?_
 simp only[Tryz.f162,tt,seval]
 refine cS (bi L hL hT s 12 (by omega) (by omega) ha) (by decide) ?_ ?_<;>simp only[tt,seval,PB]
 cases c:al L s 12 with
 |true=>
  have hm:asM L s=mText L 2 (adv s):=by rw[asM,if_pos c]
  rw[hm]
  simp only[tt,seval,di,dj,cT,dr]
  refine cS (dA L hL hT (adv s) 2 (by omega) (bd (ao c))) (by decide) ?_ ?_<;>simp only[tt,seval,PB]
  refine⟨_,[PB L (mText L 2 (adv s)).2],⟨rfl,rfl⟩,aj ?_⟩
  simp only[tt,seval,PB]
 |false=>
  have hm:asM L s=(z0,s):=by rw[asM,if_neg (by rw[c];simp)]
  rw[hm]
  simp only[tt,seval,di,dj,cT,dr,Bool.false_eq_true]
  refine⟨vs z0,[PB L s],⟨rfl,rfl⟩,aj ?_⟩
  simp only[tt,seval,PB,z0]
set_option maxHeartbeats 1000000 in
theorem tA (L:List Tok) (hL:L.length≤1048576) (hT:∀t∈L,t.text.size≤1048576) {f:Nat→PM Expr} {q:PM Query} (ok1:OkM (L:=L) (f 1)) (okq:OkM (L:=L) q) (hf:mT L 39 [vi 1] (f 1)) (hq:Aq L 53 q):mT L 90 [] (gv L f q):=by
 intro s e s' h ha
 have hts:=kB hL hT s
 unfold gv at h
 simp only at h
 refine ab aa false Tryz.func90 rfl (by kernel_rfl) ?_
 simp only[Tryz.f90,tt,seval]
 refine cS (jR L hL hT s 3 (by omega) ha) (by decide) ?_ ?_<;>simp only[tt,seval,PB]
 cases c3:nz L s 3 with
 |true=>
  rw[if_pos c3] at h
  injection h with h;injection h with h1 h2;subst h1 h2
  simp only[tt,seval]
  refine cS (dA L hL hT s 3 (by omega) ha) (by decide) ?_ ?_<;>simp only[tt,seval,PB]
  rw[kD c3]
  refine cZ (ny (cH L s) hts) (by decide) ?_ ?_<;>simp only[tt,seval,mp]
  refine⟨.ag (an (bM ⟨1,ku (cH L s),z0⟩).row),[PB L (adv s)],⟨rfl,rfl⟩,aj ?_⟩
  simp only[tt,seval,rW]
 |false=>
 rw[if_neg (by rw[c3];simp)] at h
 simp only[tt,seval]
 refine cS (jR L hL hT s 4 (by omega) ha) (by decide) ?_ ?_<;>simp only[tt,seval,PB]
 cases c4:nz L s 4 with
 |true=>
  rw[if_pos c4] at h
  injection h with h;injection h with h1 h2;subst h1 h2
  simp only[tt,seval]
  refine cS (dA L hL hT s 4 (by omega) ha) (by decide) ?_ ?_<;>simp only[tt,seval,PB]
  rw[kD c4]
  refine cZ (uN (cH L s)) (by decide) ?_ ?_<;>simp only[tt,seval,Val.row]
  refine⟨.ag (an (bM ⟨2,0,cH L s⟩).row),[PB L (adv s)],⟨rfl,rfl⟩,aj ?_⟩
  simp only[tt,seval,rW]
 |false=>
 rw[if_neg (by rw[c4];simp)] at h
 simp only[tt,seval,di,dj,cT,dr]
 refine cS (bi L hL hT s 20 (by omega) (by omega) ha) (by decide) ?_ ?_<;>simp only[tt,seval,PB]
 cases c20:al L s 20 with
 |true=>
  rw[if_pos c20] at h
  injection h with h;injection h with h1 h2;subst h1 h2
  simp only[tt,seval,di,dj,cT,dr]
  refine⟨.ag (an (bM dW).row),[PB L (adv s)],⟨rfl,rfl⟩,aj ?_⟩
  simp only[tt,seval,rW]
 |false=>
 rw[if_neg (by rw[c20];simp)] at h
 simp only[tt,seval,di,dj,cT,dr,Bool.false_eq_true]
 refine cS (bi L hL hT s 21 (by omega) (by omega) ha) (by decide) ?_ ?_<;>simp only[tt,seval,PB]
 cases c21:al L s 21 with
 |true=>
  rw[if_pos c21] at h
  injection h with h;injection h with h1 h2;subst h1 h2
  simp only[tt,seval,di,dj,cT,dr]
  refine cZ (uO) (by decide) ?_ ?_<;>simp only[tt,seval,Val.row]
  refine⟨.ag (an (bM ⟨3,1,z0⟩).row),[PB L (adv s)],⟨rfl,rfl⟩,aj ?_⟩
  simp only[tt,seval,rW]
 |false=>
 rw[if_neg (by rw[c21];simp)] at h
 simp only[tt,seval,di,dj,cT,dr,Bool.false_eq_true]
 refine cS (bi L hL hT s 22 (by omega) (by omega) ha) (by decide) ?_ ?_<;>simp only[tt,seval,PB]
 cases c22:al L s 22 with
 |true=>
  rw[if_pos c22] at h
  injection h with h;injection h with h1 h2;subst h1 h2
  simp only[tt,seval,di,dj,cT,dr]
  refine cZ (uP) (by decide) ?_ ?_<;>simp only[tt,seval,Val.row]
  refine⟨.ag (an (bM ⟨3,0,z0⟩).row),[PB L (adv s)],⟨rfl,rfl⟩,aj ?_⟩
  simp only[tt,seval,rW]
 |false=>
 rw[if_neg (by rw[c22];simp)] at h
 simp only[tt,seval,di,dj,cT,dr,Bool.false_eq_true]
 refine cS (jR L hL hT s 2 (by omega) ha) (by decide) ?_ ?_<;>simp only[tt,seval,PB]
 cases c2:nz L s 2 with
 |true=>
  rw[if_pos c2] at h
  simp only[tt,seval]
  refine cS (dA L hL hT s 2 (by omega) ha) (by decide) ?_ ?_<;>simp only[tt,seval,PB]
  rw[kD c2]
  simp only[tt,seval]
  have ha1:=bd (L:=L) (i6 c2)
  refine cS (bK L hL hT (adv s) 46 ha1) (by decide) ?_ ?_<;>simp only[tt,seval,PB]
  cases cd:be L (adv s) 46 with
  |true=>
   rw[if_pos cd] at h
   injection h with h;injection h with h1 h2;subst h1 h2
   simp only[tt,seval,cd]
   refine cS (aS L hL hT (adv s) true (fun _=>az cd)) (by decide) ?_ ?_<;>simp only[tt,seval,PB,cT]
   refine cS (dA L hL hT (adv (adv s)) 2 (by omega) (bd (az cd))) (by decide) ?_ ?_<;>simp only[tt,seval,PB]
   refine⟨.ag (an (cg (cH L s) (mText L 2 (adv (adv s))).1).row),[PB L ((mText L 2 (adv (adv s))).2)],⟨rfl,rfl⟩,aj ?_⟩
   simp only[tt,seval,rW]
  |false=>
   rw[if_neg (by rw[cd];simp)] at h
   injection h with h;injection h with h1 h2;subst h1 h2
   simp only[tt,seval,cd]
   refine⟨.ag (an (cg z0 (cH L s)).row),[PB L (adv s)],⟨rfl,rfl⟩,aj ?_⟩
   simp only[tt,seval,rW]
 |false=>
 simp only[tt,seval]
 refine cS (bi L hL hT s 19 (by omega) (by omega) ha) (by decide) ?_ ?_<;>simp only[tt,seval,PB]
 cases c19:al L s 19 with
 |true=>
  rw[if_neg (by rw[c2];simp),if_neg (by rw[qm c19];simp),if_pos c19] at h
  simp only[tt,seval,di,dj,cT,dr]
  have ha1:=bd (L:=L) (ao c19)
  have o1:Ok L (adv s) (must (be L (adv s) 40) (adv s)):=Ok.must fun h=>az h
  refine cS (bK L hL hT (adv s) 40 ha1) (by decide) ?_ ?_<;>simp only[tt,seval,PB]
  refine cS (aS L hL hT (adv s) (be L (adv s) 40) (fun h=>az h)) (by decide) ?_ ?_<;>simp only[tt,seval,PB]
  split at h
  ·cases h
  ·rename_i x t hx
   injection h with h;injection h with h1 h2;subst h1 h2
   have o2:=okq _ _ _ hx
   obtain⟨d,its,frs,whs,ods,lim⟩:=x
   have c:=hq _ _ _ hx (o1.2.1 ha1)
   rw[Query.row_mk] at c
   refine cS (c) (by decide) ?_ ?_<;>simp only[tt,seval,PB]
   refine cS (bK L hL hT t 41 (o2.2.1 (o1.2.1 ha1))) (by decide) ?_ ?_<;>simp only[tt,seval,PB]
   refine cS (aS L hL hT t (be L t 41) (fun h=>az h)) (by decide) ?_ ?_<;>simp only[tt,seval,PB]
   refine⟨.ag (an (aZ 9 false [] [.mk d its frs whs ods lim]).row),[PB L (must (be L t 41) t)],⟨rfl,rfl⟩,aj ?_⟩
   simp only[tt,seval,rW]
 |false=>
 simp only[tt,seval,di,dj,cT,dr,Bool.false_eq_true]
 rw[if_neg (by rw[c2];simp)] at h
 refine cS (bK L hL hT s 40 ha) (by decide) ?_ ?_<;>simp only[tt,seval,PB]
 refine cS (aS L hL hT s (be L s 40) (fun h=>az h)) (by decide) ?_ ?_<;>simp only[tt,seval,PB]
 cases cl:be L s 40 with
 |true=>
  obtain⟨hb,hlt⟩:=az cl
  rw[if_pos cl] at h
  have ha1:=bd (L:=L) (az cl)
  have hb1:(adv s).b=false:=hb
  split at h
  ·cases h
  ·rename_i x t hx
   injection h with h;injection h with h1 h2;subst h1 h2
   have o2:=ok1 _ _ _ hx
   obtain⟨k0,o0,n0,v0,q0,m0,ks0,ss0⟩:=x
   have c:=hf _ _ _ hx ha1
   rw[Expr.row_mk] at c
   simp only[tt,seval,di,dj,cT,dr,hb1]
   have e0:PB L (adv s)=[.sl L.length (L.flatMap Tok.row) none,.v (.int .i64 (adv s).a),.v (.bool false)]:=by rw[PB,hb1]
   rw[e0] at c
   refine cS (c) (by decide) ?_ ?_<;>simp only[tt,seval,PB,Val.row]
   refine cS (bK L hL hT t 41 (o2.2.1 ha1)) (by decide) ?_ ?_<;>simp only[tt,seval,PB]
   refine cS (aS L hL hT t (be L t 41) (fun h=>az h)) (by decide) ?_ ?_<;>simp only[tt,seval,PB]
   refine⟨.ag (an (Expr.mk k0 o0 n0 v0 q0 m0 ks0 ss0).row),[PB L (must (be L t 41) t)],⟨rfl,rfl⟩,aj ?_⟩
   simp only[tt,seval,rW,Val.row]
 |false=>
  rw[if_neg (by rw[cl];simp),if_neg (by rw[c19];simp)] at h
  injection h with h;injection h with h1 h2;subst h1 h2
  simp only[tt,seval,di,dj,cT,dr,fl]
  refine⟨.ag (an (aK).row),[PB L (fl s)],⟨rfl,rfl⟩,aj ?_⟩
  simp only[tt,seval,rW,fl]
def wT (Lo:Ob):Nat:=match Go.Dv.look Lo 9000 with|some (.str [_,.v (.int _ a),_])=>a.toNat|_=>0
theorem Cw (l:List Expr) (k0 o0:Int) (n0:Bool) (v0:Val) (q0 m0:ByteArray) (ks0:List Expr) (ss0:List Query):l.flatMap Expr.row++[int k0,int o0,bool n0,int v0.kind,int v0.num,str v0.text,str q0,str m0,.sl ks0.length (ks0.flatMap Expr.row),.sl ss0.length (ss0.flatMap Query.row)]=(l++[Expr.mk k0 o0 n0 v0 q0 m0 ks0 ss0]).flatMap Expr.row:=by
 rw[List.flatMap_append,List.flatMap_cons,List.flatMap_nil,List.append_nil,Expr.row_mk]
theorem Ar (X:List D) (l:List Expr) (k0 o0:Int) (n0:Bool) (v0:Val) (q0 m0:ByteArray) (ks0:List Expr) (ss0:List Query):X++l.flatMap Expr.row++[int k0,int o0,bool n0,int v0.kind,int v0.num,str v0.text,str q0,str m0,.sl ks0.length (ks0.flatMap Expr.row),.sl ss0.length (ss0.flatMap Query.row)]=X++(l++[Expr.mk k0 o0 n0 v0 q0 m0 ks0 ss0]).flatMap Expr.row:=by
 rw[List.append_assoc,Cw]
theorem DJ (k0 o0:Int) (n0:Bool) (v0:Val) (q0 m0:ByteArray) (ks0:List Expr) (ss0:List Query) (k1 o1:Int) (n1:Bool) (v1:Val) (q1 m1:ByteArray) (ks1:List Expr) (ss1:List Query):([int k0,int o0,bool n0,int v0.kind,int v0.num,str v0.text,str q0,str m0,.sl ks0.length (ks0.flatMap Expr.row),.sl ss0.length (ss0.flatMap Query.row),int k1,int o1,bool n1,int v1.kind,int v1.num,str v1.text,str q1,str m1,.sl ks1.length (ks1.flatMap Expr.row),.sl ss1.length (ss1.flatMap Query.row)]:List D)=([Expr.mk k0 o0 n0 v0 q0 m0 ks0 ss0,Expr.mk k1 o1 n1 v1 q1 m1 ks1 ss1]).flatMap Expr.row:=by
 rw[List.flatMap_cons,List.flatMap_cons,List.flatMap_nil,List.append_nil,Expr.row_mk,Expr.row_mk];rfl
set_option maxHeartbeats 1000000 in
theorem qn (L:List Tok) (hL:L.length≤1048576) (hT:∀t∈L,t.text.size≤1048576) {f:Nat→PM Expr} {q:PM Query} (ok1:OkM (L:=L) (f 1)) (okq:OkM (L:=L) q) (hf:mT L 39 [vi 1] (f 1)) (hq:Aq L 53 q) (e:Expr) (not:Bool):mT L 151 [.ag (an e.row),vb not] (wI L f q e not):=by
 intro s x s' h ha
 unfold wI at h
 simp only at h
 have o1:Ok L s (must (be L s 40) s):=Ok.must fun h=>az h
 have ha1:=o1.2.1 ha
 obtain⟨k1,p1,n1,v1,q1,m1,ks1,ss1⟩:=e
 rw[Expr.row_mk]
 refine ab aa false Tryz.func151 rfl (by kernel_rfl) ?_
 simp only[Tryz.f151,tt,seval]
 refine cS (bK L hL hT s 40 ha) (by decide) ?_ ?_<;>simp only[tt,seval,PB,Val.row]
 refine cS (aS L hL hT s (be L s 40) (fun h=>az h)) (by decide) ?_ ?_<;>simp only[tt,seval,PB]
 generalize must (be L s 40) s=u at *
 refine cS (dE L hL hT u 1 (by omega) (by omega) ha1) (by decide) ?_ ?_<;>simp only[tt,seval,PB]
 cases c1:al L u 1 with
 |true=>
  rw[if_pos c1] at h
  split at h
  ·cases h
  ·rename_i y t hy
   injection h with h;injection h with h1 h2;subst h1 h2
   have o2:=okq _ _ _ hy
   obtain⟨d,its,frs,whs,ods,lim⟩:=y
   have c:=hq _ _ _ hy ha1
   rw[Query.row_mk] at c
   simp only[tt,seval]
   refine cS (c) (by decide) ?_ ?_<;>simp only[tt,seval,PB]
   refine cS (bK L hL hT t 41 (o2.2.1 ha1)) (by decide) ?_ ?_<;>simp only[tt,seval,PB]
   refine cS (aS L hL hT t (be L t 41) (fun h=>az h)) (by decide) ?_ ?_<;>simp only[tt,seval,PB]
   refine⟨.ag (an (aZ 8 not [Expr.mk k1 p1 n1 v1 q1 m1 ks1 ss1] [.mk d its frs whs ods lim]).row),[PB L (must (be L t 41) t)],⟨rfl,rfl⟩,aj ?_⟩
   simp only[tt,seval,rW,Val.row]
 |false=>
  rw[if_neg (by rw[c1];simp)] at h
  unfold kx at h
  split at h
  ·cases h
  rename_i l t hl
  split at hl
  ·cases hl
  rename_i y u1 hy
  injection h with h;injection h with h1 h2;subst h1 h2
  simp only[tt,seval,Bool.false_eq_true]
  have o2:=ok1 _ _ _ hy
  have ha2:=o2.2.1 ha1
  obtain⟨k0,o0,n0,v0,q0,m0,ks0,ss0⟩:=y
  have c:=hf _ _ _ hy ha1
  rw[Expr.row_mk] at c
  apply zE 8 0 2 6
  case h1=>
   refine dDrawn.intro [29] (.take 1 (.br 0 (.br 2 (.br 3 (.take 4 .done) .nobr) .nobr) (.br 2 (.take 0 (.br 3 (.take 4 .done) .nobr)) .nobr))) (by kernel_rfl) ?_
   simp only[tt,seval]
   all_goals repeat' first|refine kf ?_ ?_|refine eB ?_ ?_
   all_goals
    refine cS (c) (by decide) ?_ ?_
    ·simp only[tt,seval,PB,Val.row]
     try decide
    simp only[tt,seval,PB,Val.row]
   all_goals exact⟨rfl,rfl,rfl,rfl,rfl,rfl⟩
  case h2=>
   intro f' hj0 hj1 hj2 hj3
   try simp only[tt,seval,hj0,hj1,hj2,hj3]
   rw[DJ k1 p1 n1 v1 q1 m1 ks1 ss1 k0 o0 n0 v0 q0 m0 ks0 ss0]
   refine dLoop.gh [.ren 30 39] ⟨by decide,by decide,?_⟩
   refine dLoop0.intro (fun f' Lo p=>∃(m:List Expr) (v:PS) (n:Nat),f' 8 = .c (.s 39 ((Expr.mk k1 p1 n1 v1 q1 m1 ks1 ss1)::m).length)∧eD L (f 1) n m v=some (l,t)∧v.a≤L.length∧m.length≤v.a+1∧Lo=[(9000,.str (PB L v)),(39,.arr 29 ((Expr.mk k1 p1 n1 v1 q1 m1 ks1 ss1)::m).length (((Expr.mk k1 p1 n1 v1 q1 m1 ks1 ss1)::m).flatMap Expr.row) none),(6,.str [.v (.int .i64 0),.v (.int .i64 0),.v (.bool false),.v (.int .i64 0),.v (.int .i64 0),.v (.string ByteArray.empty),.v (.string ByteArray.empty),.v (.string ByteArray.empty),.v (.slice none 0 0),.v (.slice none 0 0)])]∧p=none) (fun _ Lo _=>L.length-wT Lo) [(9000,.str (PB L u1)),(39,.arr 29 ([(Expr.mk k1 p1 n1 v1 q1 m1 ks1 ss1),(Expr.mk k0 o0 n0 v0 q0 m0 ks0 ss0)]).length (([(Expr.mk k1 p1 n1 v1 q1 m1 ks1 ss1),(Expr.mk k0 o0 n0 v0 q0 m0 ks0 ss0)]).flatMap Expr.row) none),(6,.str [.v (.int .i64 0),.v (.int .i64 0),.v (.bool false),.v (.int .i64 0),.v (.int .i64 0),.v (.string ByteArray.empty),.v (.string ByteArray.empty),.v (.string ByteArray.empty),.v (.slice none 0 0),.v (.slice none 0 0)])] none ⟨SubO.cons rfl (SubO.cons rfl (SubO.cons rfl (SubO.nil _))),PoSub.none _,?_⟩ ?_
   ·simp only[tt,seval,hj0]
    exact⟨[(Expr.mk k0 o0 n0 v0 q0 m0 ks0 ss0)],u1,L.length+1,rfl,hl,ha2,by simp,rfl⟩
   ·rintro g' Lo p ⟨m,v,n,h8,hm,hv,hml,rfl,rfl⟩
    simp only[tt,seval] at h8
    try simp only[tt,seval,h8,hj1,hj2,hj3]
    refine cS (bK L hL hT v 44 hv) (by decide) ?_ ?_<;>simp only[tt,seval,PB,h8,hj1,hj2,hj3]
    cases n with
    |zero=>cases hm
    |succ n=>
    rw[eD] at hm
    cases c44:be L v 44 with
    |true=>
     rw[if_pos c44] at hm
     split at hm
     ·cases hm
     rename_i z w hz
     obtain⟨hb,hlt⟩:=az c44
     have hav:=bd (L:=L) (az c44)
     have o3:=ok1 _ _ _ hz
     have o3a:v.a+1≤w.a:=o3.1
     have hw:=o3.2.1 hav
     obtain⟨k2,o2',n2,v2,q2,m2,ks2,ss2⟩:=z
     have c2:=hf _ _ _ hz hav
     rw[Expr.row_mk] at c2
     simp only[tt,seval,h8,hj1,hj2,hj3]
     refine cS (aS L hL hT v true (fun _=>az c44)) (by decide) ?_ ?_<;>simp only[tt,seval,PB,cT,h8,hj1,hj2,hj3]
     refine cS (c2) (by decide) ?_ ?_<;>simp only[tt,seval,PB,h8,hj1,hj2,hj3,Val.row]
     refine⟨by kernel_rfl,⟨by simp only[maxLen];omega,by omega⟩,?_⟩
     rw[Ar,show m.length+1+1=(m++[Expr.mk k2 o2' n2 v2 q2 m2 ks2 ss2]).length+1 by simp]
     exact⟨_,none,SubO.cons rfl (SubO.cons rfl (SubO.cons rfl (SubO.nil _))),PoSub.none _,⟨m++[Expr.mk k2 o2' n2 v2 q2 m2 ks2 ss2],w,n,rfl,hm,hw,by simp;omega,rfl,rfl⟩,by show L.length-((w.a:Int)).toNat<L.length-((v.a:Int)).toNat;omega⟩
    |false=>
     rw[if_neg (by rw[c44];simp)] at hm
     injection hm with hm;injection hm with e1 e2;subst e1 e2
     simp only[tt,seval,Bool.false_eq_true,h8,hj1,hj2,hj3]
     refine cS (bK L hL hT v 41 hv) (by decide) ?_ ?_<;>simp only[tt,seval,PB,h8,hj1,hj2,hj3]
     refine cS (aS L hL hT v (be L v 41) (fun h=>az h)) (by decide) ?_ ?_<;>simp only[tt,seval,PB,h8,hj1,hj2,hj3]
     refine⟨.ag (an (aZ 7 not ((Expr.mk k1 p1 n1 v1 q1 m1 ks1 ss1)::m) []).row),[PB L (must (be L v 41) v)],⟨rfl,rfl⟩,aj ?_⟩
     simp only[tt,seval,rW,Val.row]
theorem Cx:∀w∈[1,2,4,5,6,7],mq w=(List.range' 1 14).filter (fun k:Nat=>decide (bl (k:Int)=(w:Int))):=by decide +kernel
theorem Cy (op:Int) (n:Bool) (v:Val) (q m:ByteArray) (ks:List Expr) (ss:List Query):EP (Expr.mk 4 op n v q m ks ss)=bl op:=by simp [EP,Expr.kind,Expr.op,lv]
theorem zo (op:Nat) (h:op≤14):(rD (op:Int)).kind=if op=1∨op=2 then 1 else 5:=by
 unfold rD
 simp only
 by_cases h1:op=1∨op=2
 ·rw[if_pos h1,if_pos (by omega)]
 ·rw[if_neg h1,if_neg (by omega)]
theorem Et (L:List Tok) (s:PS) (op:Nat) (h:op≤14):(decide ((pz L s 0).kind=(rD (op:Int)).kind)&&decide ((pz L s 0).text=(rD (op:Int)).text))=mA L s op:=by
 rw[zo op h,mA,Ap L s 0 _ _ (by split<;>decide)]
 rfl
theorem Eh {n:Nat} (h:n≤1048576):IntKind.i64.wrap ((n:Int)+1)=((n+1:Nat):Int):=ak (n:=(n:Int)+1) (by omega) (by omega)
theorem DK {L:List Tok} {s:PS} {w op:Nat} (h:op≤14) (hb:¬bl (op:Int)=(w:Int)):kv L s ((List.range' op (15-op)).filter (fun k:Nat=>decide (bl (k:Int)=(w:Int))))=kv L s ((List.range' (op+1) (15-(op+1))).filter (fun k:Nat=>decide (bl (k:Int)=(w:Int)))):=by
 rw[show 15-op=15-(op+1)+1 by omega,List.range'_succ,List.filter_cons,if_neg (by simpa using hb)]
theorem Cz {L:List Tok} {s:PS} {w op:Nat} (h:op≤14) (hb:bl (op:Int)=(w:Int)):kv L s ((List.range' op (15-op)).filter (fun k:Nat=>decide (bl (k:Int)=(w:Int))))=if mA L s op=true then op else kv L s ((List.range' (op+1) (15-(op+1))).filter (fun k:Nat=>decide (bl (k:Int)=(w:Int)))):=by
 rw[show 15-op=15-(op+1)+1 by omega,List.range'_succ,List.filter_cons,if_pos (by simpa using hb),kv]
set_option maxHeartbeats 1000000 in
theorem tB (L:List Tok) (hL:L.length≤1048576) (hT:∀t∈L,t.text.size≤1048576) (s:PS) (w:Nat) (hw:w∈[1,2,4,5,6,7]) (ha:s.a≤L.length):Cl Tryz.prog 91 [.c (.p 9000 0),vi w] [PB L s] fun r os=>r=vi (dt L s w)∧os=[PB L s]:=by
 have ho:dt L s w=kv L s ((List.range' 1 (15-1)).filter (fun k:Nat=>decide (bl (k:Int)=(w:Int)))):=by rw[dt,Cx w hw]
 refine ab aa false Tryz.func91 rfl (by kernel_rfl) ?_
 simp only[Tryz.f91,tt,seval]
 refine dLoop.intro (fun f' Lo p=>∃op:Nat,f' 5=vi op∧1≤op∧op≤15∧dt L s w=kv L s ((List.range' op (15-op)).filter (fun k:Nat=>decide (bl (k:Int)=(w:Int))))∧Lo=[(9000,.str (PB L s))]∧p=none) (fun f' _ _=>(15-bn (f' 5)).toNat) [(9000,.str (PB L s))] none ⟨SubO.cons rfl (SubO.nil _),PoSub.none _,?_⟩ ?_
 ·simp only[tt,seval]
  exact⟨1,rfl,by omega,by omega,ho⟩
 ·rintro g' Lo p ⟨op,h5,h1,h2,hop,rfl,rfl⟩
  simp only[tt,seval] at h5
  by_cases hle:op≤14
  ·have e0:((op:Int)≤14)=True:=eq_true (by omega)
   simp only[tt,seval,h5,e0]
   refine cZ (zi (Expr.mk 4 op false dW z0 z0 [] [])) (by decide) ?_ ?_<;>simp only[tt,seval,Cy,Expr.row_mk,dW,z0,Cu,Val.row,List.flatMap_nil,List.length_nil,h5]
   by_cases hb:bl (op:Int)=(w:Int)
   ·have hop:=hop.trans (Cz hle hb)
    simp only[tt,seval,decide_eq_true hb,hb,h5]
    refine cZ (D8 op) (by decide) ?_ ?_<;>simp only[tt,seval,Tok.row,h5]
    refine cS (gD L hL hT s 0 (by omega) ha) (by decide) ?_ ?_<;>simp only[tt,seval,PB,Tok.row,h5]
    have hh:=Et L s op hle
    refine And.intro (fun hk=>?_) (fun hk=>?_)
    ·rw[hk,Bool.true_and] at hh
     simp only[tt,seval,hk,h5]
     by_cases hx:(pz L s 0).text=(rD (op:Int)).text
     ·rw[decide_eq_true hx] at hh
      simp only[tt,seval,hx,decide_eq_true,h5]
      refine⟨vi op,[PB L s],⟨by rw[hop,if_pos hh.symm],rfl⟩,aj ?_⟩
      simp only[tt,seval,PB]
     ·rw[decide_eq_false hx] at hh
      rw[if_neg (by rw[←hh];simp)] at hop
      simp only[tt,seval,hx,decide_eq_false,h5]
      refine⟨[(9000,.str (PB L s))],none,SubO.cons rfl (SubO.nil _),PoSub.none _,⟨op+1,by rw[Eh (n:=op) (by omega)],by omega,by omega,hop,rfl,rfl⟩,?_⟩
      rw[Eh (n:=op) (by omega)]
      show (15-((op+1:Nat):Int)).toNat<(15-(op:Int)).toNat
      omega
    ·rw[hk,Bool.false_and] at hh
     rw[if_neg (by rw[←hh];simp)] at hop
     simp only[tt,seval,hk,h5]
     refine⟨[(9000,.str (PB L s))],none,SubO.cons rfl (SubO.nil _),PoSub.none _,⟨op+1,by rw[Eh (n:=op) (by omega)],by omega,by omega,hop,rfl,rfl⟩,?_⟩
     rw[Eh (n:=op) (by omega)]
     show (15-((op+1:Nat):Int)).toNat<(15-(op:Int)).toNat
     omega
   ·have hop:=hop.trans (DK hle hb)
    simp only[tt,seval,decide_eq_false hb,hb,h5]
    refine⟨[(9000,.str (PB L s))],none,SubO.cons rfl (SubO.nil _),PoSub.none _,⟨op+1,by rw[Eh (n:=op) (by omega)],by omega,by omega,hop,rfl,rfl⟩,?_⟩
    rw[Eh (n:=op) (by omega)]
    show (15-((op+1:Nat):Int)).toNat<(15-(op:Int)).toNat
    omega
  ·have e0:((op:Int)≤14)=False:=eq_false (by omega)
   simp only[tt,seval,h5,e0]
   have e:dt L s w=0:=by rw[hop,show 15-op=0 by omega];rfl
   refine⟨vi 0,[PB L s],⟨by rw[e];rfl,rfl⟩,aj ?_⟩
   simp only[tt,seval,PB]
set_option maxHeartbeats 2000000 in
theorem uQ (L:List Tok) (hL:L.length≤1048576) (hT:∀t∈L,t.text.size≤1048576) {f:Nat→PM Expr} {q:PM Query} (ok:∀lv,OkM (L:=L) (f lv)) (okq:OkM (L:=L) q) (hf1:mT L 39 [vi 1] (f 1)) (hf5:mT L 39 [vi 5] (f 5)) (hq:Aq L 53 q):mT L 87 [] (mr L f q):=by
 intro s x s' h ha
 unfold mr at h
 split at h
 ·cases h
 rename_i e s1 he
 have o1:=ok 5 _ _ _ he
 have ha1:=o1.2.1 ha
 obtain⟨k1,p1,n1,v1,q1,m1,ks1,ss1⟩:=e
 have c1:=hf5 _ _ _ he ha
 rw[Expr.row_mk] at c1
 refine ab aa false Tryz.func87 rfl (by kernel_rfl) ?_
 simp only[Tryz.f87,tt,seval]
 refine cS (c1) (by decide) ?_ ?_<;>simp only[tt,seval,PB,Val.row]
 refine cS (tB L hL hT s1 4 (by decide) ha1) (by decide) ?_ ?_<;>simp only[tt,seval,PB]
 by_cases hop:dt L s1 4=0
 ·have e0:((0:Int)<((dt L s1 4:Nat):Int))=False:=eq_false (by omega)
  rw[if_pos hop] at h
  unfold cmpT at h
  simp only at h
  simp only[tt,seval,e0]
  refine cS (bi L hL hT s1 16 (by omega) (by omega) ha1) (by decide) ?_ ?_<;>simp only[tt,seval,PB]
  cases c16:al L s1 16 with
  |true=>
   rw[if_pos c16] at h
   injection h with h;injection h with h1 h2;subst h1 h2
   simp only[tt,seval,di,dj,cT,dr]
   have ha2:=bd (L:=L) (ao c16)
   refine cS (bi L hL hT (adv s1) 15 (by omega) (by omega) ha2) (by decide) ?_ ?_<;>simp only[tt,seval,PB]
   have o3:Ok L (adv s1) (tkIf (al L (adv s1) 15) (adv s1)):=Ok.tkIf fun h=>ao h
   have ha3:=o3.2.1 ha2
   generalize tkIf (al L (adv s1) 15) (adv s1)=u at *
   refine cS (dE L hL hT u 20 (by omega) (by omega) ha3) (by decide) ?_ ?_<;>simp only[tt,seval,PB]
   refine cS (aS L hL hT u (al L u 20) (fun h=>ao h)) (by decide) ?_ ?_<;>simp only[tt,seval,PB]
   refine⟨.ag (an (aZ 5 (al L (adv s1) 15) [(Expr.mk k1 p1 n1 v1 q1 m1 ks1 ss1)] []).row),[PB L (must (al L u 20) u)],⟨rfl,rfl⟩,aj ?_⟩
   simp only[tt,seval,rW,Val.row]
  |false=>
  rw[if_neg (by rw[c16];simp)] at h
  simp only[tt,seval,di,dj,cT,dr,Bool.false_eq_true]
  refine cS (bi L hL hT s1 15 (by omega) (by omega) ha1) (by decide) ?_ ?_<;>simp only[tt,seval,PB]
  have o2:Ok L s1 (tkIf (al L s1 15) s1):=Ok.tkIf fun h=>ao h
  have ha2:=o2.2.1 ha1
  generalize tkIf (al L s1 15) s1=u at *
  generalize al L s1 15=n at *
  refine cS (bi L hL hT u 18 (by omega) (by omega) ha2) (by decide) ?_ ?_<;>simp only[tt,seval,PB]
  cases c18:al L u 18 with
  |true=>
   rw[if_pos c18] at h
   split at h
   ·cases h
   rename_i lo s2 hlo
   split at h
   ·cases h
   rename_i hi s3 hhi
   injection h with h;injection h with h1 h2;subst h1 h2
   simp only[tt,seval,di,dj,cT,dr]
   have ha3:=bd (L:=L) (ao c18)
   have ha4:=(ok 5 _ _ _ hlo).2.1 ha3
   obtain⟨k2,p2,n2,v2,q2,m2,ks2,ss2⟩:=lo
   have c2:=hf5 _ _ _ hlo ha3
   rw[Expr.row_mk] at c2
   refine cS (c2) (by decide) ?_ ?_<;>simp only[tt,seval,PB,Val.row]
   refine cS (dE L hL hT s2 13 (by omega) (by omega) ha4) (by decide) ?_ ?_<;>simp only[tt,seval,PB]
   refine cS (aS L hL hT s2 (al L s2 13) (fun h=>ao h)) (by decide) ?_ ?_<;>simp only[tt,seval,PB]
   have o5:Ok L s2 (must (al L s2 13) s2):=Ok.must fun h=>ao h
   have ha5:=o5.2.1 ha4
   generalize must (al L s2 13) s2=w at *
   obtain⟨k3,p3,n3,v3,q3,m3,ks3,ss3⟩:=hi
   have c3:=hf5 _ _ _ hhi ha5
   rw[Expr.row_mk] at c3
   apply dR 2
   case h1=>
    refine dDrawn.intro [48] (.take 0 (.take 3 (.br 1 (.br 2 (.br 4 (.br 5 (.take 6 (.br 7 .done .nobr)) .nobr) .nobr) (.br 4 (.take 2 (.br 5 (.take 6 (.br 7 .done .nobr)) .nobr)) .nobr)) (.br 2 (.br 1 (.br 4 (.br 5 (.take 6 (.br 7 .done .nobr)) .nobr) .nobr) (.br 4 (.take 1 (.br 5 (.take 6 (.br 7 .done .nobr)) .nobr)) .nobr)) (.br 4 (.take 1 (.take 2 (.br 5 (.take 6 (.br 7 .done .nobr)) .nobr))) .nobr))))) (by kernel_rfl) ?_
    simp only[tt,seval]
    all_goals repeat' first|refine kf ?_ ?_|refine eB ?_ ?_
    all_goals
     refine cS (c3) (by decide) ?_ ?_
     ·simp only[tt,seval,PB,Val.row]
      try decide
     simp only[tt,seval,PB,Val.row]
    all_goals exact⟨rfl,rfl,rfl⟩
   case h2=>
    intro f' hj0
    try simp only[tt,seval,hj0]
    refine⟨.ag (an (aZ 6 n [(Expr.mk k1 p1 n1 v1 q1 m1 ks1 ss1),(Expr.mk k2 p2 n2 v2 q2 m2 ks2 ss2),(Expr.mk k3 p3 n3 v3 q3 m3 ks3 ss3)] []).row),[PB L (s3)],⟨rfl,rfl⟩,aj ?_⟩
    simp only[tt,seval,rW,Val.row,hj0]
  |false=>
  rw[if_neg (by rw[c18];simp)] at h
  simp only[tt,seval,di,dj,cT,dr,Bool.false_eq_true]
  refine cS (bi L hL hT u 17 (by omega) (by omega) ha2) (by decide) ?_ ?_<;>simp only[tt,seval,PB]
  cases c17:al L u 17 with
  |true=>
   rw[if_pos c17] at h
   simp only[tt,seval,di,dj,cT,dr]
   have ha3:=bd (L:=L) (ao c17)
   have c2:=qn L hL hT (ok 1) okq hf1 hq (Expr.mk k1 p1 n1 v1 q1 m1 ks1 ss1) n _ _ _ h ha3
   obtain⟨k2,p2,n2,v2,q2,m2,ks2,ss2⟩:=x
   rw[Expr.row_mk,Expr.row_mk] at c2
   refine cS (c2) (by decide) ?_ ?_<;>simp only[tt,seval,PB,Val.row]
   refine⟨.ag (an ((Expr.mk k2 p2 n2 v2 q2 m2 ks2 ss2)).row),[PB L (s')],⟨rfl,rfl⟩,aj ?_⟩
   simp only[tt,seval,rW,Val.row]
  |false=>
  rw[if_neg (by rw[c17];simp)] at h
  injection h with h;injection h with h1 h2;subst h1 h2
  simp only[tt,seval,di,dj,cT,dr,Bool.false_eq_true]
  cases n with
  |true=>
   simp only[tt,seval]
   refine⟨.ag (an ((Expr.mk k1 p1 n1 v1 q1 m1 ks1 ss1)).row),[PB L (⟨u.a,u.b||true⟩)],⟨rfl,rfl⟩,aj ?_⟩
   simp only[tt,seval,rW,Val.row,Bool.or_true]
  |false=>
   simp only[tt,seval,Bool.false_eq_true]
   refine⟨.ag (an ((Expr.mk k1 p1 n1 v1 q1 m1 ks1 ss1)).row),[PB L (⟨u.a,u.b⟩)],⟨rfl,rfl⟩,aj ?_⟩
   simp only[tt,seval,rW,Val.row]
 ·have e0:((0:Int)<((dt L s1 4:Nat):Int))=True:=eq_true (by omega)
  rw[if_neg hop] at h
  split at h
  ·cases h
  rename_i y s2 hy
  injection h with h;injection h with h1 h2;subst h1 h2
  simp only[tt,seval,e0]
  refine cS (aS L hL hT s1 true (fun _=>eo hop)) (by decide) ?_ ?_<;>simp only[tt,seval,PB,cT]
  have ha2:=bd (L:=L) (eo hop)
  obtain⟨k2,p2,n2,v2,q2,m2,ks2,ss2⟩:=y
  have c2:=hf5 _ _ _ hy ha2
  rw[Expr.row_mk] at c2
  apply dR 2
  case h1=>
   refine dDrawn.intro [19] (.take 0 (.take 2 (.br 1 (.br 3 (.br 4 (.take 5 (.br 6 .done .nobr)) .nobr) .nobr) (.br 3 (.take 1 (.br 4 (.take 5 (.br 6 .done .nobr)) .nobr)) .nobr)))) (by kernel_rfl) ?_
   simp only[tt,seval]
   all_goals repeat' first|refine kf ?_ ?_|refine eB ?_ ?_
   all_goals
    refine cS (c2) (by decide) ?_ ?_
    ·simp only[tt,seval,PB,Val.row]
     try decide
    simp only[tt,seval,PB,Val.row]
   all_goals exact⟨rfl,rfl,rfl⟩
  case h2=>
   intro f' hj0
   try simp only[tt,seval,hj0]
   refine⟨.ag (an (bJ (dt L s1 4) (Expr.mk k1 p1 n1 v1 q1 m1 ks1 ss1) (Expr.mk k2 p2 n2 v2 q2 m2 ks2 ss2)).row),[PB L (s2)],⟨rfl,rfl⟩,aj ?_⟩
   simp only[tt,seval,rW,Val.row,hj0]
set_option maxHeartbeats 2000000 in
theorem At (L:List Tok) (hL:L.length≤1048576) (hT:∀t∈L,t.text.size≤1048576) {f:Nat→PM Expr} {q:PM Query} (ok:∀lv,OkM (L:=L) (f lv)) (okq:OkM (L:=L) q) (hf:∀lv:Nat,1≤lv→lv≤8→mT L 39 [vi lv] (f lv)) (hp:mT L 90 [] (f 9)) (hq:Aq L 53 q):mT L 39 [vi (3:Nat)] (stepE L f q 3):=by
 intro s x s' h ha
 unfold stepE at h
 simp only[if_true] at h
 refine ab aa false Tryz.func39 rfl (by kernel_rfl) ?_
 simp only[Tryz.f39,tt,seval]
 refine cS (bi L hL hT s 15 (by omega) (by omega) ha) (by decide) ?_ ?_<;>simp only[tt,seval,PB]
 cases c15:al L s 15 with
 |true=>
  rw[if_pos c15] at h
  split at h
  ·cases h
  rename_i e s1 he
  injection h with h;injection h with h1 h2;subst h1 h2
  simp only[tt,seval,di,dj,cT,dr]
  obtain⟨k1,p1,n1,v1,q1,m1,ks1,ss1⟩:=e
  have c1:=hf 3 (by omega) (by omega) _ _ _ he (bd (ao c15))
  rw[Expr.row_mk] at c1
  refine cS (c1) (by decide) ?_ ?_<;>simp only[tt,seval,PB,Val.row]
  refine⟨.ag (an (eY 15 (Expr.mk k1 p1 n1 v1 q1 m1 ks1 ss1)).row),[PB L (s1)],⟨rfl,rfl⟩,aj ?_⟩
  simp only[tt,seval,rW,Val.row]
 |false=>
  rw[if_neg (by rw[c15];simp)] at h
  simp only[tt,seval,di,dj,cT,dr,Bool.false_eq_true]
  obtain⟨k1,p1,n1,v1,q1,m1,ks1,ss1⟩:=x
  have c1:=hf 4 (by omega) (by omega) _ _ _ h ha
  rw[Expr.row_mk] at c1
  refine cS (c1) (by decide) ?_ ?_<;>simp only[tt,seval,PB,Val.row]
  refine⟨.ag (an ((Expr.mk k1 p1 n1 v1 q1 m1 ks1 ss1)).row),[PB L (s')],⟨rfl,rfl⟩,aj ?_⟩
  simp only[tt,seval,rW,Val.row]
theorem Au (L:List Tok) (hL:L.length≤1048576) (hT:∀t∈L,t.text.size≤1048576) {f:Nat→PM Expr} {q:PM Query} (ok:∀lv,OkM (L:=L) (f lv)) (okq:OkM (L:=L) q) (hf:∀lv:Nat,1≤lv→lv≤8→mT L 39 [vi lv] (f lv)) (hp:mT L 90 [] (f 9)) (hq:Aq L 53 q):mT L 39 [vi (4:Nat)] (stepE L f q 4):=by
 intro s x s' h ha
 have h:mr L f q s=some (x,s'):=h
 refine ab aa false Tryz.func39 rfl (by kernel_rfl) ?_
 simp only[Tryz.f39,tt,seval]
 obtain⟨k1,p1,n1,v1,q1,m1,ks1,ss1⟩:=x
 have c1:=uQ L hL hT ok okq (hf 1 (by omega) (by omega)) (hf 5 (by omega) (by omega)) hq _ _ _ h ha
 rw[Expr.row_mk] at c1
 refine cS (c1) (by decide) ?_ ?_<;>simp only[tt,seval,PB,Val.row]
 refine⟨.ag (an ((Expr.mk k1 p1 n1 v1 q1 m1 ks1 ss1)).row),[PB L (s')],⟨rfl,rfl⟩,aj ?_⟩
 simp only[tt,seval,rW,Val.row]
set_option maxHeartbeats 2000000 in
theorem Av (L:List Tok) (hL:L.length≤1048576) (hT:∀t∈L,t.text.size≤1048576) {f:Nat→PM Expr} {q:PM Query} (ok:∀lv,OkM (L:=L) (f lv)) (okq:OkM (L:=L) q) (hf:∀lv:Nat,1≤lv→lv≤8→mT L 39 [vi lv] (f lv)) (hp:mT L 90 [] (f 9)) (hq:Aq L 53 q):mT L 39 [vi (8:Nat)] (stepE L f q 8):=by
 intro s x s' h ha
 unfold stepE at h
 simp only[Nat.reduceEqDiff,if_false,if_true] at h
 refine ab aa false Tryz.func39 rfl (by kernel_rfl) ?_
 simp only[Tryz.f39,tt,seval]
 refine cS (bK L hL hT s 45 ha) (by decide) ?_ ?_<;>simp only[tt,seval,PB]
 cases c45:be L s 45 with
 |true=>
  rw[if_pos c45] at h
  split at h
  ·cases h
  rename_i e s1 he
  injection h with h;injection h with h1 h2;subst h1 h2
  simp only[tt,seval]
  refine cS (aS L hL hT s true (fun _=>az c45)) (by decide) ?_ ?_<;>simp only[tt,seval,PB,cT]
  obtain⟨k1,p1,n1,v1,q1,m1,ks1,ss1⟩:=e
  have c1:=hf 8 (by omega) (by omega) _ _ _ he (bd (az c45))
  rw[Expr.row_mk] at c1
  refine cS (c1) (by decide) ?_ ?_<;>simp only[tt,seval,PB,Val.row]
  refine⟨.ag (an (eY 16 (Expr.mk k1 p1 n1 v1 q1 m1 ks1 ss1)).row),[PB L (s1)],⟨rfl,rfl⟩,aj ?_⟩
  simp only[tt,seval,rW,Val.row]
 |false=>
  rw[if_neg (by rw[c45];simp)] at h
  simp only[tt,seval,Bool.false_eq_true]
  obtain⟨k1,p1,n1,v1,q1,m1,ks1,ss1⟩:=x
  have c1:=hp _ _ _ h ha
  rw[Expr.row_mk] at c1
  refine cS (c1) (by decide) ?_ ?_<;>simp only[tt,seval,PB,Val.row]
  refine⟨.ag (an ((Expr.mk k1 p1 n1 v1 q1 m1 ks1 ss1)).row),[PB L (s')],⟨rfl,rfl⟩,aj ?_⟩
  simp only[tt,seval,rW,Val.row]
theorem uR {L:List Tok} {s:PS} (w:Nat) (h:s.b=true):dt L s w=0:=by
 cases Nat.eq_zero_or_pos (dt L s w) with
 |inl e=>exact e
 |inr e=>have:=(eo (L:=L) (s:=s) (lv:=w) (by omega)).1;rw[h] at this;cases this
set_option maxHeartbeats 4000000 in
theorem Aw (L:List Tok) (hL:L.length≤1048576) (hT:∀t∈L,t.text.size≤1048576) {f:Nat→PM Expr} {q:PM Query} (ok:∀lv,OkM (L:=L) (f lv)) (okq:OkM (L:=L) q) (hf:∀lv:Nat,1≤lv→lv≤8→mT L 39 [vi lv] (f lv)) (hp:mT L 90 [] (f 9)) (hq:Aq L 53 q) (w:Nat) (hw:w∈[1,2,5,6,7]):mT L 39 [vi w] (stepE L f q w):=by
 intro s x s' h ha
 have hw2:w∈[1,2,4,5,6,7]:=by simp only[List.mem_cons,List.not_mem_nil,or_false] at hw ⊢;omega
 have hw3:¬w=3 ∧ ¬w=4 ∧ ¬w=8 ∧ ¬w=9∧1≤w∧w≤7:=by simp only[List.mem_cons,List.not_mem_nil,or_false] at hw;omega
 obtain⟨w3,w4,w8,w9,w1,w7⟩:=hw3
 have g3:decide ((w:Int)=3)=false:=decide_eq_false (by omega)
 have g4:decide ((w:Int)=4)=false:=decide_eq_false (by omega)
 have g8:decide ((w:Int)=8)=false:=decide_eq_false (by omega)
 have p3:((w:Int)=3)=False:=eq_false (by omega)
 have p4:((w:Int)=4)=False:=eq_false (by omega)
 have p8:((w:Int)=8)=False:=eq_false (by omega)
 have ew:IntKind.i64.wrap ((w:Int)+1)=((w+1:Nat):Int):=ak (n:=(w:Int)+1) (by omega) (by omega)
 unfold stepE at h
 rw[if_neg w3,if_neg w4,if_neg w8,if_neg w9] at h
 split at h
 ·cases h
 rename_i e s1 he
 have o1:=ok (w+1) _ _ _ he
 have ha1:=o1.2.1 ha
 obtain⟨k1,p1,n1,v1,q1,m1,ks1,ss1⟩:=e
 have c1:=hf (w+1) (by omega) (by omega) _ _ _ he ha
 rw[Expr.row_mk] at c1
 refine ab aa false Tryz.func39 rfl (by kernel_rfl) ?_
 simp only[Tryz.f39,tt,seval]
 simp only[tt,seval,g3,g4,g8,p3,p4,p8,ew]
 refine cS (c1) (by decide) ?_ ?_<;>simp (config:={ maxSteps:=2000000 }) only[tt,seval,PB,Val.row,ew]
 refine dLoop.gh [] ?_
 refine dLoop0.introR (fun f' Lo p=>∃(e:Expr) (v:PS) (n:Nat),du L (f (w+1)) w n e v=some (x,s')∧v.a≤L.length∧(Lo=[(9000,.str (PB L v)),(5,.str (an (e).row)),(4,.str [.v (.int .i64 0),.v (.int .i64 0),.v (.bool false),.v (.int .i64 0),.v (.int .i64 0),.v (.string ByteArray.empty),.v (.string ByteArray.empty),.v (.string ByteArray.empty),.v (.slice none 0 0),.v (.slice none 0 0)])]∨(∃(op:Nat) (a b:Expr),e=bJ op a b∧Lo=[(9000,.str (PB L v)),(5,.str [.v (.int .i64 4),.v (.int .i64 op),.v (.bool false),.v (.int .i64 0),.v (.int .i64 0),.v (.string ByteArray.empty),.v (.string ByteArray.empty),.v (.string ByteArray.empty),.s 10056 2,.v (.slice none 0 0)]),(10056,.arr 29 2 ([a,b].flatMap Expr.row) none),(4,.str [.v (.int .i64 0),.v (.int .i64 0),.v (.bool false),.v (.int .i64 0),.v (.int .i64 0),.v (.string ByteArray.empty),.v (.string ByteArray.empty),.v (.string ByteArray.empty),.v (.slice none 0 0),.v (.slice none 0 0)])]))∧p=none) (fun _ Lo _=>L.length-wT Lo) [(9000,.str (PB L s1)),(5,.str (an ((Expr.mk k1 p1 n1 v1 q1 m1 ks1 ss1)).row)),(4,.str [.v (.int .i64 0),.v (.int .i64 0),.v (.bool false),.v (.int .i64 0),.v (.int .i64 0),.v (.string ByteArray.empty),.v (.string ByteArray.empty),.v (.string ByteArray.empty),.v (.slice none 0 0),.v (.slice none 0 0)])] none ⟨by rw[Expr.row_mk];exact SubO.cons rfl (SubO.cons rfl (SubO.cons rfl (SubO.nil _))),PoSub.none _,?_⟩ ?_
 ·simp only[tt,seval]
  exact⟨(Expr.mk k1 p1 n1 v1 q1 m1 ks1 ss1),s1,L.length+1,h,ha1,.inl rfl⟩
 ·rintro g' Lo p ⟨e,v,n,hm,hv,rfl|⟨op,a,b,rfl,rfl⟩,rfl⟩
  ·obtain⟨k1,p1,n1,v1,q1,m1,ks1,ss1⟩:=e
   rw[Expr.row_mk]
   simp only[tt,seval,Val.row]
   cases n with
   |zero=>cases hm
   |succ n=>
   rw[du] at hm
   have fini:dt L v w=0→((Expr.mk k1 p1 n1 v1 q1 m1 ks1 ss1)=x∧v=s'):=fun e0=>by
    rw[if_pos e0] at hm
    injection hm with hm;injection hm with e1 e2;exact⟨e1,e2⟩
   cases hb:v.b with
   |true=>
    obtain⟨e1,e2⟩:=fini (uR w hb)
    subst e1 e2
    simp only[tt,seval,PB,hb,Val.row]
    refine⟨.ag (an ((Expr.mk k1 p1 n1 v1 q1 m1 ks1 ss1)).row),[PB L v],⟨rfl,by rw[PB,hb]⟩,aj ?_⟩
    simp only[tt,seval,rW,Val.row,hb]
   |false=>
   have hpb:PB L v=[.sl L.length (L.flatMap Tok.row) none,.v (.int .i64 v.a),.v (.bool false)]:=by rw[PB,hb]
   have cop:=tB L hL hT v w hw2 hv
   rw[hpb] at cop
   simp only[tt,seval,PB,hb,Val.row]
   refine cS (cop) (by decide) ?_ ?_<;>simp only[tt,seval,PB,hb,Val.row]
   by_cases hop:dt L v w=0
   ·obtain⟨e1,e2⟩:=fini hop
    subst e1 e2
    have e0:decide (((dt L v w:Nat):Int)=0)=true:=decide_eq_true (by omega)
    simp only[tt,seval,hop,e0,PB,hb,Val.row]
    refine⟨.ag (an ((Expr.mk k1 p1 n1 v1 q1 m1 ks1 ss1)).row),[PB L v],⟨rfl,by rw[PB,hb]⟩,aj ?_⟩
    simp only[tt,seval,rW,Val.row,hb]
   ·have e0:decide (((dt L v w:Nat):Int)=0)=false:=decide_eq_false (by omega)
    have e1:(((dt L v w:Nat):Int)=0)=False:=eq_false (by omega)
    rw[if_neg hop] at hm
    split at hm
    ·cases hm
    rename_i z u hz
    have hav:=bd (L:=L) (eo hop)
    have o3:=ok (w+1) _ _ _ hz
    have o3a:v.a+1≤u.a:=o3.1
    have hu:=o3.2.1 hav
    have hlt:=(eo hop).2
    obtain⟨k2,p2,n2,v2,q2,m2,ks2,ss2⟩:=z
    have c2:=hf (w+1) (by omega) (by omega) _ _ _ hz hav
    rw[Expr.row_mk] at c2
    have cst:=aS L hL hT v true (fun _=>eo hop)
    rw[hpb] at cst
    simp only[tt,seval,e0,e1]
    refine cS (cst) (by decide) ?_ ?_<;>simp only[tt,seval,PB,cT,Val.row]
    apply dR 5
    case h1=>
     refine dDrawn.intro [55] (.take 0 (.take 2 (.take 3 (.take 4 (.br 1 (.br 5 (.br 6 (.take 7 (.br 8 .done .nobr)) .nobr) .nobr) (.br 5 (.take 1 (.br 6 (.take 7 (.br 8 .done .nobr)) .nobr)) .nobr)))))) (by kernel_rfl) ?_
     simp only[tt,seval]
     all_goals repeat' first|refine kf ?_ ?_|refine eB ?_ ?_
     all_goals
      refine cS (c2) (by decide) ?_ ?_
      ·simp (config:={ maxSteps:=2000000 }) only[tt,seval,PB,Val.row,ew]
       try decide
      simp (config:={ maxSteps:=2000000 }) only[tt,seval,PB,Val.row,ew]
     all_goals exact⟨rfl,rfl,rfl⟩
    case h2=>
     intro f' hj0
     try simp only[tt,seval,hj0]
     refine⟨[.ren 56 10056],by decide,by decide,?_⟩
     simp only[tt,seval]
     refine⟨[(9000,.str (PB L u)),(5,.str [.v (.int .i64 4),.v (.int .i64 (dt L v w)),.v (.bool false),.v (.int .i64 0),.v (.int .i64 0),.v (.string ByteArray.empty),.v (.string ByteArray.empty),.v (.string ByteArray.empty),.s 10056 2,.v (.slice none 0 0)]),(10056,.arr 29 2 ([(Expr.mk k1 p1 n1 v1 q1 m1 ks1 ss1),(Expr.mk k2 p2 n2 v2 q2 m2 ks2 ss2)].flatMap Expr.row) none),(4,.str [.v (.int .i64 0),.v (.int .i64 0),.v (.bool false),.v (.int .i64 0),.v (.int .i64 0),.v (.string ByteArray.empty),.v (.string ByteArray.empty),.v (.string ByteArray.empty),.v (.slice none 0 0),.v (.slice none 0 0)])],none,by simp only[rW,Val.row];exact SubO.cons rfl (SubO.cons rfl (SubO.cons rfl (SubO.cons rfl (SubO.nil _)))),PoSub.none _,⟨bJ (dt L v w) (Expr.mk k1 p1 n1 v1 q1 m1 ks1 ss1) (Expr.mk k2 p2 n2 v2 q2 m2 ks2 ss2),u,n,hm,hu,.inr ⟨_,(Expr.mk k1 p1 n1 v1 q1 m1 ks1 ss1),(Expr.mk k2 p2 n2 v2 q2 m2 ks2 ss2),rfl,rfl⟩,rfl⟩,?_⟩
     show L.length-((u.a:Int)).toNat<L.length-((v.a:Int)).toNat
     omega
  ·skip
   simp only[tt,seval,Val.row]
   cases n with
   |zero=>cases hm
   |succ n=>
   rw[du] at hm
   have fini:dt L v w=0→((bJ op a b)=x∧v=s'):=fun e0=>by
    rw[if_pos e0] at hm
    injection hm with hm;injection hm with e1 e2;exact⟨e1,e2⟩
   cases hb:v.b with
   |true=>
    obtain⟨e1,e2⟩:=fini (uR w hb)
    subst e1 e2
    simp only[tt,seval,PB,hb,Val.row]
    refine⟨.ag (an ((bJ op a b)).row),[PB L v],⟨rfl,by rw[PB,hb]⟩,aj ?_⟩
    simp only[tt,seval,rW,Val.row,hb]
   |false=>
   have hpb:PB L v=[.sl L.length (L.flatMap Tok.row) none,.v (.int .i64 v.a),.v (.bool false)]:=by rw[PB,hb]
   have cop:=tB L hL hT v w hw2 hv
   rw[hpb] at cop
   simp only[tt,seval,PB,hb,Val.row]
   refine cS (cop) (by decide) ?_ ?_<;>simp only[tt,seval,PB,hb,Val.row]
   by_cases hop:dt L v w=0
   ·obtain⟨e1,e2⟩:=fini hop
    subst e1 e2
    have e0:decide (((dt L v w:Nat):Int)=0)=true:=decide_eq_true (by omega)
    simp only[tt,seval,hop,e0,PB,hb,Val.row]
    refine⟨.ag (an ((bJ op a b)).row),[PB L v],⟨rfl,by rw[PB,hb]⟩,aj ?_⟩
    simp only[tt,seval,rW,Val.row,hb]
   ·have e0:decide (((dt L v w:Nat):Int)=0)=false:=decide_eq_false (by omega)
    have e1:(((dt L v w:Nat):Int)=0)=False:=eq_false (by omega)
    rw[if_neg hop] at hm
    split at hm
    ·cases hm
    rename_i z u hz
    have hav:=bd (L:=L) (eo hop)
    have o3:=ok (w+1) _ _ _ hz
    have o3a:v.a+1≤u.a:=o3.1
    have hu:=o3.2.1 hav
    have hlt:=(eo hop).2
    obtain⟨k2,p2,n2,v2,q2,m2,ks2,ss2⟩:=z
    have c2:=hf (w+1) (by omega) (by omega) _ _ _ hz hav
    rw[Expr.row_mk] at c2
    have cst:=aS L hL hT v true (fun _=>eo hop)
    rw[hpb] at cst
    simp only[tt,seval,e0,e1]
    refine cS (cst) (by decide) ?_ ?_<;>simp only[tt,seval,PB,cT,Val.row]
    apply dR 5
    case h1=>
     refine dDrawn.intro [55] (.take 0 (.take 2 (.take 3 (.take 4 (.br 1 (.br 5 (.br 6 (.take 7 (.br 8 .done .nobr)) .nobr) .nobr) (.br 5 (.take 1 (.br 6 (.take 7 (.br 8 .done .nobr)) .nobr)) .nobr)))))) (by kernel_rfl) ?_
     simp only[tt,seval]
     all_goals repeat' first|refine kf ?_ ?_|refine eB ?_ ?_
     all_goals
      refine cS (c2) (by decide) ?_ ?_
      ·simp (config:={ maxSteps:=2000000 }) only[tt,seval,PB,Val.row,ew]
       try decide
      simp (config:={ maxSteps:=2000000 }) only[tt,seval,PB,Val.row,ew]
     all_goals exact⟨rfl,rfl,rfl⟩
    case h2=>
     intro f' hj0
     try simp only[tt,seval,hj0]
     refine⟨[.ren 56 10056],by decide,by decide,?_⟩
     simp only[tt,seval]
     refine⟨[(9000,.str (PB L u)),(5,.str [.v (.int .i64 4),.v (.int .i64 (dt L v w)),.v (.bool false),.v (.int .i64 0),.v (.int .i64 0),.v (.string ByteArray.empty),.v (.string ByteArray.empty),.v (.string ByteArray.empty),.s 10056 2,.v (.slice none 0 0)]),(10056,.arr 29 2 ([(bJ op a b),(Expr.mk k2 p2 n2 v2 q2 m2 ks2 ss2)].flatMap Expr.row) none),(4,.str [.v (.int .i64 0),.v (.int .i64 0),.v (.bool false),.v (.int .i64 0),.v (.int .i64 0),.v (.string ByteArray.empty),.v (.string ByteArray.empty),.v (.string ByteArray.empty),.v (.slice none 0 0),.v (.slice none 0 0)])],none,by simp only[rW,Val.row];exact SubO.cons rfl (SubO.cons rfl (SubO.cons rfl (SubO.cons rfl (SubO.nil _)))),PoSub.none _,⟨bJ (dt L v w) (bJ op a b) (Expr.mk k2 p2 n2 v2 q2 m2 ks2 ss2),u,n,hm,hu,.inr ⟨_,(bJ op a b),(Expr.mk k2 p2 n2 v2 q2 m2 ks2 ss2),rfl,rfl⟩,rfl⟩,?_⟩
     show L.length-((u.a:Int)).toNat<L.length-((v.a:Int)).toNat
     omega
end Go.Proofs.YteffjmaadkkmeaaGreatDoor
