/-
  The reference's parser, first half.
  Conditions: none.
-/
import Derived.Test.YtbodcedhmccenaaGreatDoorSJ1
set_option linter.unusedVariables false
set_option linter.unusedSimpArgs false
set_option linter.unusedSectionVars false
set_option maxRecDepth 8000
namespace Go.Proofs.YtbodcedhmccenaaGreatDoor
open Go Go.Dv
open Go.Vc (D d5 d6 cM bo)
def PB (L:List Tok) (s:PS):List C:=[.sl L.length (L.flatMap Tok.row) none,.v (.int .i64 s.a),.v (.bool s.b)]
def oX (L:List Tok) (s:PS) (k:Nat):Tok:=(gj L s k).getD ⟨0,⟨#[]⟩,0⟩
theorem Al (L:List Tok) (s:PS) (k:Nat) (kind:Int) (x:ByteArray) (h:kind≠0):(decide ((oX L s k).kind=kind)&&decide ((oX L s k).text=x))=iA L s k kind x:=by
 unfold oX iA
 cases gj L s k with
 |none=>simp [Ne.symm h]
 |some t=>rfl
theorem Fj (L:List Tok) (s:PS) (kind:Int) (h:kind≠0):(decide ((oX L s 0).kind=kind)&&bg (oX L s 0))=jz L s kind:=by
 unfold oX jz
 cases gj L s 0 with
 |none=>simp [Ne.symm h]
 |some t=>rfl
theorem xw (L:List Tok) (s:PS):(oX L s 0).text=bG L s:=by
 unfold oX bG
 cases gj L s 0 with
 |none=>rfl
 |some t=>rfl
theorem um {L:List Tok} (hL:L.length<=1048576) (hT:∀t∈L,t.text.size<=1048576) (s:PS) (k:Nat):(oX L s k).text.size<=1048576:=by
 unfold oX
 cases h:gj L s k with
 |none=>exact Nat.zero_le _
 |some t=>
  unfold gj at h
  split at h
  ·cases h
  ·exact hT t (List.mem_of_getElem? h)
theorem fN (L:List Tok) (hL:L.length<=1048576) (hT:∀t∈L,t.text.size<=1048576) (s:PS) (k:Nat) (hk:k<=100) (ha:s.a<=L.length):Cl Tryz.prog 227 [.c (.p 9000 0),vi k] [PB L s] fun r os=>r = .ag (ar (oX L s k).row)/\os=[PB L s]:=by
 obtain⟨a,b⟩:=s
 have ha:a<=L.length:=ha
 cases b with
 |true=>
  have e:oX L ⟨a,true⟩ k=⟨0,⟨#[]⟩,0⟩:=rfl
  rw[e]
  refine ah ab false Tryz.func227 rfl (by kernel_rfl) ?_
  simp only[Tryz.f227,tt,seval]
  refine dDrawn.intro [] (iO [0,2,4,6,8,10,12,14,16,18,20,22,24,26,28,30,32,34]) (by kernel_rfl) ?_
  simp only[tt,seval]
  simp only[tt,seval,PB]
  refine⟨_,[PB L ⟨a,true⟩],⟨rfl,rfl⟩,ai ?_⟩
  simp only[tt,seval,PB,Tok.row]
  rfl
 |false=>
  refine ah ab false Tryz.func227 rfl (by kernel_rfl) ?_
  simp only[Tryz.f227,tt,seval]
  refine dDrawn.intro [] (iO [0,2,4,6,8,10,12,14,16,18,20,22,24,26,28,30,32,34]) (by kernel_rfl) ?_
  simp only[tt,seval]
  simp only[tt,seval,PB]
  rw[aq (n:=(a:Int)+k) (by omega) (by omega)]
  refine fun _=>aa (fun hge=>?_) (fun hlt=>?_)
  ·have e:oX L ⟨a,false⟩ k=⟨0,⟨#[]⟩,0⟩:=by
    show (L[a+k]?).getD _=_
    rw[List.getElem?_eq_none_iff.2 (by omega)];rfl
   rw[e]
   refine⟨_,[PB L ⟨a,false⟩],⟨rfl,rfl⟩,ai ?_⟩
   simp only[tt,seval,PB,Tok.row]
   rfl
  ·have hlt:a+k<L.length:=by omega
   have e:oX L ⟨a,false⟩ k=L[a+k]:=by
    show (L[a+k]?).getD _=_
    rw[az hlt];rfl
   rw[e]
   refine dDrawn.intro [] (iO [0,2,4,6,8,10,12,14,16,18,20,22,25]) (by kernel_rfl) ?_
   simp only[tt,seval]
   rw[aq (n:=(a:Int)+k) (by omega) (by omega)]
   have e2:((a:Int)+(k:Int)).toNat=a+k:=by omega
   simp only[e2]
   refine⟨by omega,by omega,_,aE cn (az (by omega)),Tok.ne _ _,?_⟩
   simp only[tt,seval,Tok.row]
   refine⟨_,[PB L ⟨a,false⟩],⟨rfl,rfl⟩,ai ?_⟩
   simp only[tt,seval,PB]
theorem cW (L:List Tok) (hL:L.length<=1048576) (hT:∀t∈L,t.text.size<=1048576) (s:PS) (k:Nat) (h1:1<=k) (h2:k<=28) (ha:s.a<=L.length):Cl Tryz.prog 126 [.c (.p 9000 0),vi k] [PB L s] fun r os=>r=vb (ap L s k)/\os=[PB L s]:=by
 rw[show ap L s k=_ from (Al L s 0 1 (kw k) (by decide)).symm]
 refine ah ab false Tryz.func126 rfl (by kernel_rfl) ?_
 simp only[Tryz.f126,tt,seval]
 refine cS (fN L hL hT s 0 (by omega) ha) ?_ ?_<;>simp only[tt,seval,PB,Tok.row]
 refine dDrawn.intro [] (iO [0,2,4,6,8,10,12,15,16,18,20]) (by kernel_rfl) ?_
 simp only[tt,seval]
 generalize oX L s 0=t at *
 by_cases hk:t.kind=1
 ·simp only[tt,seval,av hk]
  refine cZ (rv k h1 h2) ?_ ?_<;>simp only[tt,seval]
  refine⟨_,[PB L s],⟨rfl,rfl⟩,ai ?_⟩
  simp only[tt,seval,PB]
 ·simp only[tt,seval,au hk]
  refine⟨_,[PB L s],⟨rfl,rfl⟩,ai ?_⟩
  simp only[tt,seval,PB]
theorem yU (L:List Tok) (hL:L.length<=1048576) (hT:∀t∈L,t.text.size<=1048576) (s:PS) (x:ByteArray) (ha:s.a<=L.length):Cl Tryz.prog 226 [.c (.p 9000 0),vs x] [PB L s] fun r os=>r=vb (iA L s 0 5 x)/\os=[PB L s]:=by
 rw[show iA L s 0 5 x=_ from (Al L s 0 5 x (by decide)).symm]
 refine ah ab false Tryz.func226 rfl (by kernel_rfl) ?_
 simp only[Tryz.f226,tt,seval]
 refine cS (fN L hL hT s 0 (by omega) ha) ?_ ?_<;>simp only[tt,seval,PB,Tok.row]
 generalize oX L s 0=t at *
 by_cases hk:t.kind=5
 ·simp only[tt,seval,av hk]
  refine⟨_,[PB L s],⟨rfl,rfl⟩,ai ?_⟩
  simp only[tt,seval,PB]
 ·simp only[tt,seval,au hk]
  refine⟨_,[PB L s],⟨rfl,rfl⟩,ai ?_⟩
  simp only[tt,seval,PB]
theorem jg (L:List Tok) (hL:L.length<=1048576) (hT:∀t∈L,t.text.size<=1048576) (s:PS) (k:Nat) (h1:1<=k) (ha:s.a<=L.length):Cl Tryz.prog 229 [.c (.p 9000 0),vi k] [PB L s] fun r os=>r=vb (jz L s k)/\os=[PB L s]:=by
 rw[show jz L s k=_ from (Fj L s k (by omega)).symm]
 refine ah ab false Tryz.func229 rfl (by kernel_rfl) ?_
 simp only[Tryz.f229,tt,seval]
 refine cS (fN L hL hT s 0 (by omega) ha) ?_ ?_<;>simp only[tt,seval,PB,Tok.row]
 have hs:=um hL hT s 0
 generalize oX L s 0=t at *
 by_cases hk:t.kind=k
 ·simp only[tt,seval,av hk]
  refine cZ (cG t hs) ?_ ?_<;>simp only[tt,seval,Tok.row]
  refine⟨_,[PB L s],⟨rfl,rfl⟩,ai ?_⟩
  simp only[tt,seval,PB]
 ·simp only[tt,seval,au hk]
  refine⟨_,[PB L s],⟨rfl,rfl⟩,ai ?_⟩
  simp only[tt,seval,PB]
theorem aI (L:List Tok) (hL:L.length<=1048576) (hT:∀t∈L,t.text.size<=1048576) (s:PS) (c:Bool) (hc:c=true->s.b=false/\s.a<L.length):Cl Tryz.prog 125 [.c (.p 9000 0),vb c] [PB L s] fun r os=>r = .tu []/\os=[PB L (must c s)]:=by
 obtain⟨a,b⟩:=s
 cases c with
 |true=>
  obtain⟨rfl,ha⟩:=hc rfl
  have ha:a<L.length:=ha
  refine ah ab false Tryz.func125 rfl (by kernel_rfl) ?_
  simp only[Tryz.f125,tt,seval]
  simp only[tt,seval,PB]
  rw[aq (n:=(a:Int)+1) (by omega) (by omega)]
  refine⟨_,[PB L ⟨a+1,false⟩],⟨rfl,rfl⟩,ai ?_⟩
  simp only[tt,seval,PB]
  rfl
 |false=>
  refine ah ab false Tryz.func125 rfl (by kernel_rfl) ?_
  simp only[Tryz.f125,tt,seval]
  simp only[tt,seval,PB]
  refine⟨_,[PB L ⟨a,true⟩],⟨rfl,rfl⟩,ai ?_⟩
  simp only[tt,seval,PB]
theorem aV (L:List Tok) (hL:L.length<=1048576) (hT:∀t∈L,t.text.size<=1048576) (s:PS) (k:Nat) (h1:1<=k) (h2:k<=28) (ha:s.a<=L.length):Cl Tryz.prog 122 [.c (.p 9000 0),vi k] [PB L s] fun r os=>r=vb (ap L s k)/\os=[PB L (tkIf (ap L s k) s)]:=by
 refine ah ab false Tryz.func122 rfl (by kernel_rfl) ?_
 simp only[Tryz.f122,tt,seval]
 refine cS (cW L hL hT s k h1 h2 ha) ?_ ?_<;>simp only[tt,seval,PB]
 cases hk:ap L s k with
 |true=>
  simp only[tt,seval]
  refine cS (aI L hL hT s true (fun _=>ao hk)) ?_ ?_<;>simp only[tt,seval,PB]
  refine⟨_,[PB L (adv s)],⟨rfl,rfl⟩,ai ?_⟩
  simp only[tt,seval,PB,must]
 |false=>
  simp only[tt,seval]
  refine⟨_,[PB L s],⟨rfl,rfl⟩,ai ?_⟩
  simp only[tt,seval,PB]
theorem cT (L:List Tok) (hL:L.length<=1048576) (hT:∀t∈L,t.text.size<=1048576) (s:PS) (k:Nat) (h1:1<=k) (ha:s.a<=L.length):Cl Tryz.prog 127 [.c (.p 9000 0),vi k] [PB L s] fun r os=>r=vs (mText L k s).1/\os=[PB L (mText L k s).2]:=by
 refine ah ab false Tryz.func127 rfl (by kernel_rfl) ?_
 simp only[Tryz.f127,tt,seval]
 refine cS (fN L hL hT s 0 (by omega) ha) ?_ ?_<;>simp only[tt,seval,PB,Tok.row]
 refine cS (jg L hL hT s k h1 ha) ?_ ?_<;>simp only[tt,seval,PB]
 refine cS (aI L hL hT s (jz L s k) (fun h=>gu h)) ?_ ?_<;>simp only[tt,seval,PB]
 cases hk:jz L s k with
 |true=>
  obtain⟨hb,_⟩:=gu hk
  simp only[tt,seval,must,adv,hb]
  refine⟨vs (oX L s 0).text,[PB L (adv s)],⟨?_,?_⟩,ai ?_⟩
  ·rw[mText,if_pos hk,xw]
  ·rw[mText,if_pos hk];rfl
  ·simp only[tt,seval,PB,adv,hb]
 |false=>
  simp only[tt,seval,must,fl]
  refine⟨vs ⟨#[]⟩,[PB L (fl s)],⟨?_,?_⟩,ai ?_⟩
  ·rw[mText,if_neg (by rw[hk];simp)]
  ·rw[mText,if_neg (by rw[hk];simp)];rfl
  ·simp only[tt,seval,PB,fl]
theorem gC (s:PS):tkIf true s=adv s:=rfl
theorem fY (s:PS):tkIf false s=s:=rfl
theorem sI (s:PS):must true s=adv s:=rfl
theorem Fn (s:PS):must false s=fl s:=rfl
def mc (L:List Tok) (fn:FuncId) (args:List S) (m:PM Expr):Prop:=∀s e s',m s=some (e,s')->s.a<=L.length->Cl Tryz.prog fn (.c (.p 9000 0)::args) [PB L s] fun r os=>r = .ag (ar e.row)/\os=[PB L s']
def Am (L:List Tok) (fn:FuncId) (m:PM Query):Prop:=∀s e s',m s=some (e,s')->s.a<=L.length->Cl Tryz.prog fn [.c (.p 9000 0)] [PB L s] fun r os=>r = .ag (ar e.row)/\os=[PB L s']
theorem jH {L:List Tok} (hL:L.length<=1048576) (hT:∀t∈L,t.text.size<=1048576) (s:PS):(bG L s).size<=1048576:=by
 rw[<-xw];exact um hL hT s 0
theorem aR {L:List Tok} {s:PS} (h:s.b=false/\s.a<L.length):(adv s).a<=L.length:=h.2
theorem jI {L:List Tok} {s:PS} {k:Int} (h:jz L s k=true):mText L k s=(bG L s,adv s):=by rw[mText,if_pos h]
theorem pL {L:List Tok} {s:PS} {k:Nat} {c:UInt8} (h:ap L s k=true):aN L s c=false:=by
 unfold ap iA at h
 unfold aN iA
 cases ht:gj L s 0 with
 |none=>rfl
 |some t=>
  rw[ht] at h
  simp only[Bool.and_eq_true,decide_eq_true_eq] at h
  simp [h.1]
theorem dm:ByteArray.empty=⟨#[]⟩:=rfl
theorem rW:type_of% (aa @dm (aa @PB.eq_1 (aa @dD.eq_1 (aa @mG.eq_1 (aa @cP.eq_1 (aa @nD.eq_1 (aa @ft.eq_1 (aa @zExpr.eq_1 (aa @bC.eq_1 (aa @z0.eq_1 (aa @ae (aa @ay (aa @List.flatMap_nil.{0,0} (aa @List.flatMap_cons.{0,0} (aa @List.append_nil.{0} (aa @List.length_nil.{0} @List.length_cons.{0})))))))))))))))):=aa @dm (aa @PB.eq_1 (aa @dD.eq_1 (aa @mG.eq_1 (aa @cP.eq_1 (aa @nD.eq_1 (aa @ft.eq_1 (aa @zExpr.eq_1 (aa @bC.eq_1 (aa @z0.eq_1 (aa @ae (aa @ay (aa @List.flatMap_nil.{0,0} (aa @List.flatMap_cons.{0,0} (aa @List.append_nil.{0} (aa @List.length_nil.{0} @List.length_cons.{0})))))))))))))))
theorem un (s:ByteArray):Cl Tryz.prog 312 [vs s] [] fun r _=>r = .ag (ar (Val.mk 2 0 s).row):=by
 refine ah ab false Tryz.func312 rfl (by kernel_rfl) ?_
 simp only[Tryz.f312,tt,seval]
 refine⟨.ag (ar (Val.mk 2 0 s).row),[],rfl,ak rfl⟩
theorem uo:Cl Tryz.prog 313 [vb true] [] fun r _=>r = .ag (ar (Val.mk 3 1 z0).row):=by
 refine ah ab false Tryz.func313 rfl (by kernel_rfl) ?_
 simp only[Tryz.f313,tt,seval]
 refine⟨.ag (ar (Val.mk 3 1 z0).row),[],rfl,ai ?_⟩
 simp only[tt,seval,Val.row,z0,dm]
theorem uq:Cl Tryz.prog 313 [vb false] [] fun r _=>r = .ag (ar (Val.mk 3 0 z0).row):=by
 refine ah ab false Tryz.func313 rfl (by kernel_rfl) ?_
 simp only[Tryz.f313,tt,seval]
 refine⟨.ag (ar (Val.mk 3 0 z0).row),[],rfl,ai ?_⟩
 simp only[tt,seval,Val.row,z0,dm]
theorem bu (L:List Tok) (hL:L.length<=1048576) (hT:∀t∈L,t.text.size<=1048576) (s:PS) (c:UInt8) (ha:s.a<=L.length):Cl Tryz.prog 226 [.c (.p 9000 0),vs ⟨#[c]⟩] [PB L s] fun r os=>r=vb (aN L s c)/\os=[PB L s]:=yU L hL hT s ⟨#[c]⟩ ha
theorem la (L:List Tok) (hL:L.length<=1048576) (hT:∀t∈L,t.text.size<=1048576) (s:PS) (ha:s.a<=L.length):Cl Tryz.prog 289 [.c (.p 9000 0)] [PB L s] fun r os=>r=vs (asM L s).1/\os=[PB L (asM L s).2]:=by
 refine ah ab false Tryz.func289 rfl (by kernel_rfl) ?_
 simp only[Tryz.f289,tt,seval]
 refine cS (aV L hL hT s 12 (by omega) (by omega) ha) ?_ ?_<;>simp only[tt,seval,PB]
 cases c:ap L s 12 with
 |true=>
  have hm:asM L s=mText L 2 (adv s):=by rw[asM,if_pos c]
  rw[hm]
  simp only[tt,seval,gC]
  refine cS (cT L hL hT (adv s) 2 (by omega) (aR (ao c))) ?_ ?_<;>simp only[tt,seval,PB]
  refine⟨_,[PB L (mText L 2 (adv s)).2],⟨rfl,rfl⟩,ai ?_⟩
  simp only[tt,seval,PB]
 |false=>
  have hm:asM L s=(z0,s):=by rw[asM,if_neg (by rw[c];simp)]
  rw[hm]
  simp only[tt,seval,fY]
  refine⟨vs z0,[PB L s],⟨rfl,rfl⟩,ai ?_⟩
  simp only[tt,seval,PB,z0]
set_option maxHeartbeats 1000000 in
theorem sJ (L:List Tok) (hL:L.length<=1048576) (hT:∀t∈L,t.text.size<=1048576) {f:Nat->PM Expr} {q:PM Query} (ok1:OkM (L:=L) (f 1)) (okq:OkM (L:=L) q) (hf:mc L 172 [vi 1] (f 1)) (hq:Am L 129 q):mc L 267 [] (fa L f q):=by
 intro s e s' h ha
 have hts:=jH hL hT s
 unfold fa at h
 simp only at h
 refine ah ab false Tryz.func267 rfl (by kernel_rfl) ?_
 simp only[Tryz.f267,tt,seval]
 refine cS (jg L hL hT s 3 (by omega) ha) ?_ ?_<;>simp only[tt,seval,PB]
 cases c3:jz L s 3 with
 |true=>
  rw[if_pos c3] at h
  injection h with h;injection h with h1 h2;subst h1 h2
  simp only[tt,seval]
  refine cS (cT L hL hT s 3 (by omega) ha) ?_ ?_<;>simp only[tt,seval,PB]
  rw[jI c3]
  refine cZ (mF (bG L s) hts) ?_ ?_<;>simp only[tt,seval,lC]
  refine⟨.ag (ar (dD ⟨1,jD (bG L s),z0⟩).row),[PB L (adv s)],⟨rfl,rfl⟩,ai ?_⟩
  simp only[tt,seval,dm,PB,dD,z0,ae]
 |false=>
 rw[if_neg (by rw[c3];simp)] at h
 simp only[tt,seval]
 refine cS (jg L hL hT s 4 (by omega) ha) ?_ ?_<;>simp only[tt,seval,PB]
 cases c4:jz L s 4 with
 |true=>
  rw[if_pos c4] at h
  injection h with h;injection h with h1 h2;subst h1 h2
  simp only[tt,seval]
  refine cS (cT L hL hT s 4 (by omega) ha) ?_ ?_<;>simp only[tt,seval,PB]
  rw[jI c4]
  refine cZ (un (bG L s)) ?_ ?_<;>simp only[tt,seval,Val.row]
  refine⟨.ag (ar (dD ⟨2,0,bG L s⟩).row),[PB L (adv s)],⟨rfl,rfl⟩,ai ?_⟩
  simp only[tt,seval,dm,PB,dD,z0,ae]
 |false=>
 rw[if_neg (by rw[c4];simp)] at h
 simp only[tt,seval]
 refine cS (aV L hL hT s 20 (by omega) (by omega) ha) ?_ ?_<;>simp only[tt,seval,PB]
 cases c20:ap L s 20 with
 |true=>
  rw[if_pos c20] at h
  injection h with h;injection h with h1 h2;subst h1 h2
  simp only[tt,seval,gC]
  refine⟨.ag (ar (dD bC).row),[PB L (adv s)],⟨rfl,rfl⟩,ai ?_⟩
  simp only[tt,seval,dm,PB,dD,bC,z0,ae]
 |false=>
 rw[if_neg (by rw[c20];simp)] at h
 simp only[tt,seval,fY]
 refine cS (aV L hL hT s 21 (by omega) (by omega) ha) ?_ ?_<;>simp only[tt,seval,PB]
 cases c21:ap L s 21 with
 |true=>
  rw[if_pos c21] at h
  injection h with h;injection h with h1 h2;subst h1 h2
  simp only[tt,seval,gC]
  refine cZ (uo) ?_ ?_<;>simp only[tt,seval,Val.row]
  refine⟨.ag (ar (dD ⟨3,1,z0⟩).row),[PB L (adv s)],⟨rfl,rfl⟩,ai ?_⟩
  simp only[tt,seval,dm,PB,dD,z0,ae]
 |false=>
 rw[if_neg (by rw[c21];simp)] at h
 simp only[tt,seval,fY]
 refine cS (aV L hL hT s 22 (by omega) (by omega) ha) ?_ ?_<;>simp only[tt,seval,PB]
 cases c22:ap L s 22 with
 |true=>
  rw[if_pos c22] at h
  injection h with h;injection h with h1 h2;subst h1 h2
  simp only[tt,seval,gC]
  refine cZ (uq) ?_ ?_<;>simp only[tt,seval,Val.row]
  refine⟨.ag (ar (dD ⟨3,0,z0⟩).row),[PB L (adv s)],⟨rfl,rfl⟩,ai ?_⟩
  simp only[tt,seval,dm,PB,dD,z0,ae]
 |false=>
 rw[if_neg (by rw[c22];simp)] at h
 simp only[tt,seval,fY]
 refine cS (jg L hL hT s 2 (by omega) ha) ?_ ?_<;>simp only[tt,seval,PB]
 cases c2:jz L s 2 with
 |true=>
  rw[if_pos c2] at h
  simp only[tt,seval]
  refine cS (cT L hL hT s 2 (by omega) ha) ?_ ?_<;>simp only[tt,seval,PB]
  rw[jI c2]
  simp only[seval]
  have ha1:=aR (L:=L) (gu c2)
  refine cS (bu L hL hT (adv s) 46 ha1) ?_ ?_<;>simp only[tt,seval,PB]
  cases cd:aN L (adv s) 46 with
  |true=>
   rw[if_pos cd] at h
   injection h with h;injection h with h1 h2;subst h1 h2
   simp only[tt,seval]
   refine cS (aI L hL hT (adv s) true (fun _=>ax cd)) ?_ ?_<;>simp only[tt,seval,PB,sI]
   refine cS (cT L hL hT (adv (adv s)) 2 (by omega) (aR (ax cd))) ?_ ?_<;>simp only[tt,seval,PB]
   refine⟨.ag (ar (mG (bG L s) (mText L 2 (adv (adv s))).1).row),[PB L ((mText L 2 (adv (adv s))).2)],⟨rfl,rfl⟩,ai ?_⟩
   simp only[tt,seval,dm,PB,mG,bC,ae]
  |false=>
   rw[if_neg (by rw[cd];simp)] at h
   injection h with h;injection h with h1 h2;subst h1 h2
   simp only[tt,seval]
   refine⟨.ag (ar (mG z0 (bG L s)).row),[PB L (adv s)],⟨rfl,rfl⟩,ai ?_⟩
   simp only[tt,seval,dm,PB,mG,bC,z0,ae]
 |false=>
 simp only[tt,seval]
 refine cS (aV L hL hT s 19 (by omega) (by omega) ha) ?_ ?_<;>simp only[tt,seval,PB]
 cases c19:ap L s 19 with
 |true=>
  rw[if_neg (by rw[c2];simp),if_neg (by rw[pL c19];simp),if_pos c19] at h
  simp only[tt,seval,gC]
  have ha1:=aR (L:=L) (ao c19)
  have o1:Ok L (adv s) (must (aN L (adv s) 40) (adv s)):=Ok.must fun h=>ax h
  refine cS (bu L hL hT (adv s) 40 ha1) ?_ ?_<;>simp only[tt,seval,PB]
  refine cS (aI L hL hT (adv s) (aN L (adv s) 40) (fun h=>ax h)) ?_ ?_<;>simp only[tt,seval,PB]
  split at h
  ·cases h
  ·rename_i x t hx
   injection h with h;injection h with h1 h2;subst h1 h2
   have o2:=okq _ _ _ hx
   obtain⟨d,its,frs,whs,ods,lim⟩:=x
   have c:=hq _ _ _ hx (o1.2.1 ha1)
   rw[ay] at c
   refine cS (c) ?_ ?_<;>simp only[tt,seval,PB]
   refine cS (bu L hL hT t 41 (o2.2.1 (o1.2.1 ha1))) ?_ ?_<;>simp only[tt,seval,PB]
   refine cS (aI L hL hT t (aN L t 41) (fun h=>ax h)) ?_ ?_<;>simp only[tt,seval,PB]
   refine⟨.ag (ar (cP 9 false [] [.mk d its frs whs ods lim]).row),[PB L (must (aN L t 41) t)],⟨rfl,rfl⟩,ai ?_⟩
   simp only[tt,seval,dm,PB,cP,bC,z0,ae,ay]
 |false=>
 simp only[tt,seval,fY]
 rw[if_neg (by rw[c2];simp)] at h
 refine cS (bu L hL hT s 40 ha) ?_ ?_<;>simp only[tt,seval,PB]
 refine cS (aI L hL hT s (aN L s 40) (fun h=>ax h)) ?_ ?_<;>simp only[tt,seval,PB]
 cases cl:aN L s 40 with
 |true=>
  obtain⟨hb,hlt⟩:=ax cl
  rw[if_pos cl] at h
  have ha1:=aR (L:=L) (ax cl)
  have hb1:(adv s).b=false:=hb
  split at h
  ·cases h
  ·rename_i x t hx
   injection h with h;injection h with h1 h2;subst h1 h2
   have o2:=ok1 _ _ _ hx
   obtain⟨k0,o0,n0,v0,q0,m0,ks0,ss0⟩:=x
   have c:=hf _ _ _ hx ha1
   rw[ae] at c
   simp only[tt,seval,sI,hb1]
   have e0:PB L (adv s)=[.sl L.length (L.flatMap Tok.row) none,.v (.int .i64 (adv s).a),.v (.bool false)]:=by rw[PB,hb1]
   rw[e0] at c
   refine cS (c) ?_ ?_<;>simp only[tt,seval,PB]
   refine cS (bu L hL hT t 41 (o2.2.1 ha1)) ?_ ?_<;>simp only[tt,seval,PB]
   refine cS (aI L hL hT t (aN L t 41) (fun h=>ax h)) ?_ ?_<;>simp only[tt,seval,PB]
   refine⟨.ag (ar (Expr.mk k0 o0 n0 v0 q0 m0 ks0 ss0).row),[PB L (must (aN L t 41) t)],⟨rfl,rfl⟩,ai ?_⟩
   simp only[tt,seval,dm,PB,ae]
 |false=>
  rw[if_neg (by rw[cl];simp),if_neg (by rw[c19];simp)] at h
  injection h with h;injection h with h1 h2;subst h1 h2
  simp only[tt,seval,Fn,fl]
  refine⟨.ag (ar (zExpr).row),[PB L (fl s)],⟨rfl,rfl⟩,ai ?_⟩
  simp only[tt,seval,dm,PB,zExpr,bC,z0,ae,fl]
def w5 (Lo:Ob):Nat:=match Go.Dv.look Lo 9000 with|some (.str [_,.v (.int _ a),_])=>a.toNat|_=>0
theorem CB (l:List Expr) (k0 o0:Int) (n0:Bool) (v0:Val) (q0 m0:ByteArray) (ks0:List Expr) (ss0:List Query):l.flatMap Expr.row++[int k0,int o0,bool n0,int v0.kind,int v0.num,str v0.text,str q0,str m0,.sl ks0.length (ks0.flatMap Expr.row),.sl ss0.length (ss0.flatMap Query.row)]=(l++[Expr.mk k0 o0 n0 v0 q0 m0 ks0 ss0]).flatMap Expr.row:=by
 rw[List.flatMap_append,List.flatMap_cons,List.flatMap_nil,List.append_nil,ae]
theorem An (X:List D) (l:List Expr) (k0 o0:Int) (n0:Bool) (v0:Val) (q0 m0:ByteArray) (ks0:List Expr) (ss0:List Query):X++l.flatMap Expr.row++[int k0,int o0,bool n0,int v0.kind,int v0.num,str v0.text,str q0,str m0,.sl ks0.length (ks0.flatMap Expr.row),.sl ss0.length (ss0.flatMap Query.row)]=X++(l++[Expr.mk k0 o0 n0 v0 q0 m0 ks0 ss0]).flatMap Expr.row:=by
 rw[b9,CB]
theorem DU (k0 o0:Int) (n0:Bool) (v0:Val) (q0 m0:ByteArray) (ks0:List Expr) (ss0:List Query) (k1 o1:Int) (n1:Bool) (v1:Val) (q1 m1:ByteArray) (ks1:List Expr) (ss1:List Query):([int k0,int o0,bool n0,int v0.kind,int v0.num,str v0.text,str q0,str m0,.sl ks0.length (ks0.flatMap Expr.row),.sl ss0.length (ss0.flatMap Query.row),int k1,int o1,bool n1,int v1.kind,int v1.num,str v1.text,str q1,str m1,.sl ks1.length (ks1.flatMap Expr.row),.sl ss1.length (ss1.flatMap Query.row)]:List D)=([Expr.mk k0 o0 n0 v0 q0 m0 ks0 ss0,Expr.mk k1 o1 n1 v1 q1 m1 ks1 ss1]).flatMap Expr.row:=by
 rw[List.flatMap_cons,List.flatMap_cons,List.flatMap_nil,List.append_nil,ae,ae];rfl
set_option maxHeartbeats 1000000 in
theorem pM (L:List Tok) (hL:L.length<=1048576) (hT:∀t∈L,t.text.size<=1048576) {f:Nat->PM Expr} {q:PM Query} (ok1:OkM (L:=L) (f 1)) (okq:OkM (L:=L) q) (hf:mc L 172 [vi 1] (f 1)) (hq:Am L 129 q) (e:Expr) (not:Bool):mc L 311 [.ag (ar e.row),vb not] (ug L f q e not):=by
 intro s x s' h ha
 unfold ug at h
 simp only at h
 have o1:Ok L s (must (aN L s 40) s):=Ok.must fun h=>ax h
 have ha1:=o1.2.1 ha
 obtain⟨k1,p1,n1,v1,q1,m1,ks1,ss1⟩:=e
 rw[ae]
 refine ah ab false Tryz.func311 rfl (by kernel_rfl) ?_
 simp only[Tryz.f311,tt,seval]
 refine cS (bu L hL hT s 40 ha) ?_ ?_<;>simp only[tt,seval,PB]
 refine cS (aI L hL hT s (aN L s 40) (fun h=>ax h)) ?_ ?_<;>simp only[tt,seval,PB]
 generalize must (aN L s 40) s=u at *
 refine cS (cW L hL hT u 1 (by omega) (by omega) ha1) ?_ ?_<;>simp only[tt,seval,PB]
 cases c1:ap L u 1 with
 |true=>
  rw[if_pos c1] at h
  split at h
  ·cases h
  ·rename_i y t hy
   injection h with h;injection h with h1 h2;subst h1 h2
   have o2:=okq _ _ _ hy
   obtain⟨d,its,frs,whs,ods,lim⟩:=y
   have c:=hq _ _ _ hy ha1
   rw[ay] at c
   simp only[tt,seval]
   refine cS (c) ?_ ?_<;>simp only[tt,seval,PB]
   refine cS (bu L hL hT t 41 (o2.2.1 ha1)) ?_ ?_<;>simp only[tt,seval,PB]
   refine cS (aI L hL hT t (aN L t 41) (fun h=>ax h)) ?_ ?_<;>simp only[tt,seval,PB]
   refine⟨.ag (ar (cP 8 not [Expr.mk k1 p1 n1 v1 q1 m1 ks1 ss1] [.mk d its frs whs ods lim]).row),[PB L (must (aN L t 41) t)],⟨rfl,rfl⟩,ai ?_⟩
   simp only[tt,seval,dm,PB,cP,bC,z0,ae,ay]
 |false=>
  rw[if_neg (by rw[c1];simp)] at h
  unfold jb at h
  split at h
  ·cases h
  rename_i l t hl
  split at hl
  ·cases hl
  rename_i y u1 hy
  injection h with h;injection h with h1 h2;subst h1 h2
  simp only[tt,seval]
  have o2:=ok1 _ _ _ hy
  have ha2:=o2.2.1 ha1
  obtain⟨k0,o0,n0,v0,q0,m0,ks0,ss0⟩:=y
  have c:=hf _ _ _ hy ha1
  rw[ae] at c
  apply eB 8 0 2 6
  case h1=>
   refine dDrawn.intro [29] (.take 1 (.br 0 (.br 2 (.br 3 (.take 4 .done) .nobr) .nobr) (.br 2 (.take 0 (.br 3 (.take 4 .done) .nobr)) .nobr))) (by kernel_rfl) ?_
   simp only[tt,seval]
   all_goals repeat' first|refine cj ?_ ?_|refine aO ?_ ?_
   all_goals
    refine cS (c) ?_ ?_
    ·simp only[tt,seval,PB]
     decide
    simp only[tt,seval,PB]
   all_goals exact⟨rfl,rfl,rfl,rfl,rfl,rfl⟩
  case h2=>
   intro f' hj0 hj1 hj2 hj3
   simp only[tt,seval]
   rw[DU k1 p1 n1 v1 q1 m1 ks1 ss1 k0 o0 n0 v0 q0 m0 ks0 ss0]
   refine dLoop.gh [.ren 30 39] ⟨by decide,by decide,?_⟩
   refine dLoop0.intro (fun f' Lo p=>∃(m:List Expr) (v:PS) (n:Nat),f' 8 = .c (.s 39 ((Expr.mk k1 p1 n1 v1 q1 m1 ks1 ss1)::m).length)/\dt L (f 1) n m v=some (l,t)/\v.a<=L.length/\m.length<=v.a+1/\Lo=[(9000,.str (PB L v)),(39,.arr 52 ((Expr.mk k1 p1 n1 v1 q1 m1 ks1 ss1)::m).length (((Expr.mk k1 p1 n1 v1 q1 m1 ks1 ss1)::m).flatMap Expr.row) none),(6,.str [.v (.int .i64 0),.v (.int .i64 0),.v (.bool false),.v (.int .i64 0),.v (.int .i64 0),.v (.string ByteArray.empty),.v (.string ByteArray.empty),.v (.string ByteArray.empty),.v (.slice none 0 0),.v (.slice none 0 0)])]/\p=none) (fun _ Lo _=>L.length-w5 Lo) [(9000,.str (PB L u1)),(39,.arr 52 ([(Expr.mk k1 p1 n1 v1 q1 m1 ks1 ss1),(Expr.mk k0 o0 n0 v0 q0 m0 ks0 ss0)]).length (([(Expr.mk k1 p1 n1 v1 q1 m1 ks1 ss1),(Expr.mk k0 o0 n0 v0 q0 m0 ks0 ss0)]).flatMap Expr.row) none),(6,.str [.v (.int .i64 0),.v (.int .i64 0),.v (.bool false),.v (.int .i64 0),.v (.int .i64 0),.v (.string ByteArray.empty),.v (.string ByteArray.empty),.v (.string ByteArray.empty),.v (.slice none 0 0),.v (.slice none 0 0)])] none ⟨ac rfl (ac rfl (ac rfl (al _))),an _,?_⟩ ?_
   ·simp only[tt,seval,hj0]
    exact⟨[(Expr.mk k0 o0 n0 v0 q0 m0 ks0 ss0)],u1,L.length+1,rfl,hl,ha2,by simp,rfl⟩
   ·rintro g' Lo p ⟨m,v,n,h8,hm,hv,hml,rfl,rfl⟩
    simp only[tt,seval] at h8
    simp only[tt,seval,hj1]
    refine cS (bu L hL hT v 44 hv) ?_ ?_<;>simp only[tt,seval,PB,hj1]
    cases n with
    |zero=>cases hm
    |succ n=>
    rw[dt] at hm
    cases c44:aN L v 44 with
    |true=>
     rw[if_pos c44] at hm
     split at hm
     ·cases hm
     rename_i z w hz
     obtain⟨hb,hlt⟩:=ax c44
     have hav:=aR (L:=L) (ax c44)
     have o3:=ok1 _ _ _ hz
     have o3a:v.a+1<=w.a:=o3.1
     have hw:=o3.2.1 hav
     obtain⟨k2,o2',n2,v2,q2,m2,ks2,ss2⟩:=z
     have c2:=hf _ _ _ hz hav
     rw[ae] at c2
     simp only[tt,seval]
     refine cS (aI L hL hT v true (fun _=>ax c44)) ?_ ?_<;>simp only[tt,seval,PB,sI,h8,hj1]
     refine cS (c2) ?_ ?_<;>simp only[tt,seval,PB]
     refine⟨by kernel_rfl,⟨by simp only[maxLen];omega,by omega⟩,?_⟩
     rw[An,show m.length+1+1=(m++[Expr.mk k2 o2' n2 v2 q2 m2 ks2 ss2]).length+1 by simp]
     exact⟨_,none,ac rfl (ac rfl (ac rfl (al _))),an _,⟨m++[Expr.mk k2 o2' n2 v2 q2 m2 ks2 ss2],w,n,rfl,hm,hw,by simp;omega,rfl,rfl⟩,by show L.length-((w.a:Int)).toNat<L.length-((v.a:Int)).toNat;omega⟩
    |false=>
     rw[if_neg (by rw[c44];simp)] at hm
     injection hm with hm;injection hm with e1 e2;subst e1 e2
     simp only[tt,seval]
     refine cS (bu L hL hT v 41 hv) ?_ ?_<;>simp only[tt,seval,PB]
     refine cS (aI L hL hT v (aN L v 41) (fun h=>ax h)) ?_ ?_<;>simp only[tt,seval,PB,h8,hj2,hj3]
     refine⟨.ag (ar (cP 7 not ((Expr.mk k1 p1 n1 v1 q1 m1 ks1 ss1)::m) []).row),[PB L (must (aN L v 41) v)],⟨rfl,rfl⟩,ai ?_⟩
     simp only[tt,seval,dm,PB,cP,bC,z0,ae]
theorem CC:∀w∈[1,2,4,5,6,7],lD w=(List.range' 1 14).filter (fun k:Nat=>decide (bl (k:Int)=(w:Int))):=by decide +kernel
theorem CD (op:Int) (n:Bool) (v:Val) (q m:ByteArray) (ks:List Expr) (ss:List Query):Co (Expr.mk 4 op n v q m ks ss)=bl op:=by simp [Co,Expr.kind,Expr.op,lv]
theorem yV (op:Nat) (h:op<=14):(eC (op:Int)).kind=if op=1∨op=2 then 1 else 5:=by
 unfold eC
 simp only
 by_cases h1:op=1∨op=2
 ·rw[if_pos h1,if_pos (by omega)]
 ·rw[if_neg h1,if_neg (by omega)]
theorem EC (L:List Tok) (s:PS) (op:Nat) (h:op<=14):(decide ((oX L s 0).kind=(eC (op:Int)).kind)&&decide ((oX L s 0).text=(eC (op:Int)).text))=jY L s op:=by
 rw[yV op h,jY,Al L s 0 _ _ (by split<;>decide)]
 rfl
theorem Et {n:Nat} (h:n<=1048576):IntKind.i64.wrap ((n:Int)+1)=((n+1:Nat):Int):=aq (n:=(n:Int)+1) (by omega) (by omega)
theorem DV {L:List Tok} {s:PS} {w op:Nat} (h:op<=14) (hb:¬bl (op:Int)=(w:Int)):gZ L s ((List.range' op (15-op)).filter (fun k:Nat=>decide (bl (k:Int)=(w:Int))))=gZ L s ((List.range' (op+1) (15-(op+1))).filter (fun k:Nat=>decide (bl (k:Int)=(w:Int)))):=by
 rw[show 15-op=15-(op+1)+1 by omega,List.range'_succ,List.filter_cons,if_neg (by simpa using hb)]
theorem CE {L:List Tok} {s:PS} {w op:Nat} (h:op<=14) (hb:bl (op:Int)=(w:Int)):gZ L s ((List.range' op (15-op)).filter (fun k:Nat=>decide (bl (k:Int)=(w:Int))))=if jY L s op=true then op else gZ L s ((List.range' (op+1) (15-(op+1))).filter (fun k:Nat=>decide (bl (k:Int)=(w:Int)))):=by
 rw[show 15-op=15-(op+1)+1 by omega,List.range'_succ,List.filter_cons,if_pos (by simpa using hb),gZ]
set_option maxHeartbeats 1000000 in
theorem sK (L:List Tok) (hL:L.length<=1048576) (hT:∀t∈L,t.text.size<=1048576) (s:PS) (w:Nat) (hw:w∈[1,2,4,5,6,7]) (ha:s.a<=L.length):Cl Tryz.prog 268 [.c (.p 9000 0),vi w] [PB L s] fun r os=>r=vi (cI L s w)/\os=[PB L s]:=by
 have ho:cI L s w=gZ L s ((List.range' 1 (15-1)).filter (fun k:Nat=>decide (bl (k:Int)=(w:Int)))):=by rw[cI,CC w hw]
 refine ah ab false Tryz.func268 rfl (by kernel_rfl) ?_
 simp only[Tryz.f268,tt,seval]
 refine dLoop.intro (fun f' Lo p=>∃op:Nat,f' 5=vi op/\1<=op/\op<=15/\cI L s w=gZ L s ((List.range' op (15-op)).filter (fun k:Nat=>decide (bl (k:Int)=(w:Int))))/\Lo=[(9000,.str (PB L s))]/\p=none) (fun f' _ _=>(15-bq (f' 5)).toNat) [(9000,.str (PB L s))] none ⟨ac rfl (al _),an _,?_⟩ ?_
 ·simp only[tt,seval]
  exact⟨1,rfl,by omega,by omega,ho⟩
 ·rintro g' Lo p ⟨op,h5,h1,h2,hop,rfl,rfl⟩
  simp only[tt,seval] at h5
  by_cases hle:op<=14
  ·have e0:((op:Int)<=14)=True:=eq_true (by omega)
   simp only[tt,seval,h5,e0]
   refine cZ (l7 (Expr.mk 4 op false bC z0 z0 [] [])) ?_ ?_<;>simp only[tt,seval,CD,ae,bC,z0,dm,h5]
   by_cases hb:bl (op:Int)=(w:Int)
   ·have hop:=hop.trans (CE hle hb)
    simp only[tt,seval,hb]
    refine cZ (tM op) ?_ ?_<;>simp only[tt,seval,Tok.row]
    refine cS (fN L hL hT s 0 (by omega) ha) ?_ ?_<;>simp only[tt,seval,PB,Tok.row]
    have hh:=EC L s op hle
    refine aa (fun hk=>?_) (fun hk=>?_)
    ·rw[hk,Bool.true_and] at hh
     simp only[tt,seval,hk,h5]
     by_cases hx:(oX L s 0).text=(eC (op:Int)).text
     ·rw[av hx] at hh
      simp only[tt,seval,hx]
      refine⟨vi op,[PB L s],⟨by rw[hop,if_pos hh.symm],rfl⟩,ai ?_⟩
      simp only[tt,seval,PB]
     ·rw[au hx] at hh
      rw[if_neg (by rw[<-hh];simp)] at hop
      simp only[tt,seval,hx]
      refine⟨[(9000,.str (PB L s))],none,ac rfl (al _),an _,⟨op+1,by rw[Et (n:=op) (by omega)],by omega,by omega,hop,rfl,rfl⟩,?_⟩
      rw[Et (n:=op) (by omega)]
      show (15-((op+1:Nat):Int)).toNat<(15-(op:Int)).toNat
      omega
    ·rw[hk,Bool.false_and] at hh
     rw[if_neg (by rw[<-hh];simp)] at hop
     simp only[tt,seval,hk,h5]
     refine⟨[(9000,.str (PB L s))],none,ac rfl (al _),an _,⟨op+1,by rw[Et (n:=op) (by omega)],by omega,by omega,hop,rfl,rfl⟩,?_⟩
     rw[Et (n:=op) (by omega)]
     show (15-((op+1:Nat):Int)).toNat<(15-(op:Int)).toNat
     omega
   ·have hop:=hop.trans (DV hle hb)
    simp only[tt,seval,hb]
    refine⟨[(9000,.str (PB L s))],none,ac rfl (al _),an _,⟨op+1,by rw[Et (n:=op) (by omega)],by omega,by omega,hop,rfl,rfl⟩,?_⟩
    rw[Et (n:=op) (by omega)]
    show (15-((op+1:Nat):Int)).toNat<(15-(op:Int)).toNat
    omega
  ·have e0:((op:Int)<=14)=False:=eq_false (by omega)
   simp only[tt,seval,h5,e0]
   have e:cI L s w=0:=by rw[hop,show 15-op=0 by omega];rfl
   refine⟨vi 0,[PB L s],⟨by rw[e];rfl,rfl⟩,ai ?_⟩
   simp only[tt,seval,PB]
set_option maxHeartbeats 2000000 in
theorem ur (L:List Tok) (hL:L.length<=1048576) (hT:∀t∈L,t.text.size<=1048576) {f:Nat->PM Expr} {q:PM Query} (ok:∀lv,OkM (L:=L) (f lv)) (okq:OkM (L:=L) q) (hf1:mc L 172 [vi 1] (f 1)) (hf5:mc L 172 [vi 5] (f 5)) (hq:Am L 129 q):mc L 266 [] (kj L f q):=by
 intro s x s' h ha
 unfold kj at h
 split at h
 ·cases h
 rename_i e s1 he
 have o1:=ok 5 _ _ _ he
 have ha1:=o1.2.1 ha
 obtain⟨k1,p1,n1,v1,q1,m1,ks1,ss1⟩:=e
 have c1:=hf5 _ _ _ he ha
 rw[ae] at c1
 refine ah ab false Tryz.func266 rfl (by kernel_rfl) ?_
 simp only[Tryz.f266,tt,seval]
 refine cS (c1) ?_ ?_<;>simp only[tt,seval,PB]
 refine cS (sK L hL hT s1 4 (by decide) ha1) ?_ ?_<;>simp only[tt,seval,PB]
 by_cases hop:cI L s1 4=0
 ·have e0:((0:Int)<((cI L s1 4:Nat):Int))=False:=eq_false (by omega)
  rw[if_pos hop] at h
  unfold cmpT at h
  simp only at h
  simp only[tt,seval,e0]
  refine cS (aV L hL hT s1 16 (by omega) (by omega) ha1) ?_ ?_<;>simp only[tt,seval,PB]
  cases c16:ap L s1 16 with
  |true=>
   rw[if_pos c16] at h
   injection h with h;injection h with h1 h2;subst h1 h2
   simp only[tt,seval,gC]
   have ha2:=aR (L:=L) (ao c16)
   refine cS (aV L hL hT (adv s1) 15 (by omega) (by omega) ha2) ?_ ?_<;>simp only[tt,seval,PB]
   have o3:Ok L (adv s1) (tkIf (ap L (adv s1) 15) (adv s1)):=Ok.tkIf fun h=>ao h
   have ha3:=o3.2.1 ha2
   generalize tkIf (ap L (adv s1) 15) (adv s1)=u at *
   refine cS (cW L hL hT u 20 (by omega) (by omega) ha3) ?_ ?_<;>simp only[tt,seval,PB]
   refine cS (aI L hL hT u (ap L u 20) (fun h=>ao h)) ?_ ?_<;>simp only[tt,seval,PB]
   refine⟨.ag (ar (cP 5 (ap L (adv s1) 15) [(Expr.mk k1 p1 n1 v1 q1 m1 ks1 ss1)] []).row),[PB L (must (ap L u 20) u)],⟨rfl,rfl⟩,ai ?_⟩
   simp only[tt,seval,dm,PB,cP,bC,z0,ae]
  |false=>
  rw[if_neg (by rw[c16];simp)] at h
  simp only[tt,seval,fY]
  refine cS (aV L hL hT s1 15 (by omega) (by omega) ha1) ?_ ?_<;>simp only[tt,seval,PB]
  have o2:Ok L s1 (tkIf (ap L s1 15) s1):=Ok.tkIf fun h=>ao h
  have ha2:=o2.2.1 ha1
  generalize tkIf (ap L s1 15) s1=u at *
  generalize ap L s1 15=n at *
  refine cS (aV L hL hT u 18 (by omega) (by omega) ha2) ?_ ?_<;>simp only[tt,seval,PB]
  cases c18:ap L u 18 with
  |true=>
   rw[if_pos c18] at h
   split at h
   ·cases h
   rename_i lo s2 hlo
   split at h
   ·cases h
   rename_i hi s3 hhi
   injection h with h;injection h with h1 h2;subst h1 h2
   simp only[tt,seval,gC]
   have ha3:=aR (L:=L) (ao c18)
   have ha4:=(ok 5 _ _ _ hlo).2.1 ha3
   obtain⟨k2,p2,n2,v2,q2,m2,ks2,ss2⟩:=lo
   have c2:=hf5 _ _ _ hlo ha3
   rw[ae] at c2
   refine cS (c2) ?_ ?_<;>simp only[tt,seval,PB]
   refine cS (cW L hL hT s2 13 (by omega) (by omega) ha4) ?_ ?_<;>simp only[tt,seval,PB]
   refine cS (aI L hL hT s2 (ap L s2 13) (fun h=>ao h)) ?_ ?_<;>simp only[tt,seval,PB]
   have o5:Ok L s2 (must (ap L s2 13) s2):=Ok.must fun h=>ao h
   have ha5:=o5.2.1 ha4
   generalize must (ap L s2 13) s2=w at *
   obtain⟨k3,p3,n3,v3,q3,m3,ks3,ss3⟩:=hi
   have c3:=hf5 _ _ _ hhi ha5
   rw[ae] at c3
   apply bx 2
   case h1=>
    refine dDrawn.intro [48] (.take 0 (.take 3 (.br 1 (.br 2 (.br 4 (.br 5 (.take 6 (.br 7 .done .nobr)) .nobr) .nobr) (.br 4 (.take 2 (.br 5 (.take 6 (.br 7 .done .nobr)) .nobr)) .nobr)) (.br 2 (.br 1 (.br 4 (.br 5 (.take 6 (.br 7 .done .nobr)) .nobr) .nobr) (.br 4 (.take 1 (.br 5 (.take 6 (.br 7 .done .nobr)) .nobr)) .nobr)) (.br 4 (.take 1 (.take 2 (.br 5 (.take 6 (.br 7 .done .nobr)) .nobr))) .nobr))))) (by kernel_rfl) ?_
    simp only[tt,seval]
    all_goals repeat' first|refine cj ?_ ?_|refine aO ?_ ?_
    all_goals
     refine cS (c3) ?_ ?_
     ·simp only[tt,seval,PB]
      decide
     simp only[tt,seval,PB]
    all_goals exact⟨rfl,rfl,rfl⟩
   case h2=>
    intro f' hj0
    simp only[tt,seval,hj0]
    refine⟨.ag (ar (cP 6 n [(Expr.mk k1 p1 n1 v1 q1 m1 ks1 ss1),(Expr.mk k2 p2 n2 v2 q2 m2 ks2 ss2),(Expr.mk k3 p3 n3 v3 q3 m3 ks3 ss3)] []).row),[PB L (s3)],⟨rfl,rfl⟩,ai ?_⟩
    simp only[tt,seval,dm,PB,cP,bC,z0,ae]
  |false=>
  rw[if_neg (by rw[c18];simp)] at h
  simp only[tt,seval,fY]
  refine cS (aV L hL hT u 17 (by omega) (by omega) ha2) ?_ ?_<;>simp only[tt,seval,PB]
  cases c17:ap L u 17 with
  |true=>
   rw[if_pos c17] at h
   simp only[tt,seval,gC]
   have ha3:=aR (L:=L) (ao c17)
   have c2:=pM L hL hT (ok 1) okq hf1 hq (Expr.mk k1 p1 n1 v1 q1 m1 ks1 ss1) n _ _ _ h ha3
   obtain⟨k2,p2,n2,v2,q2,m2,ks2,ss2⟩:=x
   rw[ae,ae] at c2
   refine cS (c2) ?_ ?_<;>simp only[tt,seval,PB]
   refine⟨.ag (ar ((Expr.mk k2 p2 n2 v2 q2 m2 ks2 ss2)).row),[PB L (s')],⟨rfl,rfl⟩,ai ?_⟩
   simp only[tt,seval,PB,ae]
  |false=>
  rw[if_neg (by rw[c17];simp)] at h
  injection h with h;injection h with h1 h2;subst h1 h2
  simp only[tt,seval,fY]
  cases n with
  |true=>
   simp only[tt,seval]
   refine⟨.ag (ar ((Expr.mk k1 p1 n1 v1 q1 m1 ks1 ss1)).row),[PB L (⟨u.a,u.b||true⟩)],⟨rfl,rfl⟩,ai ?_⟩
   simp only[tt,seval,PB,ae,Bool.or_true]
  |false=>
   simp only[tt,seval]
   refine⟨.ag (ar ((Expr.mk k1 p1 n1 v1 q1 m1 ks1 ss1)).row),[PB L (⟨u.a,u.b⟩)],⟨rfl,rfl⟩,ai ?_⟩
   simp only[tt,seval,PB,ae]
 ·have e0:((0:Int)<((cI L s1 4:Nat):Int))=True:=eq_true (by omega)
  rw[if_neg hop] at h
  split at h
  ·cases h
  rename_i y s2 hy
  injection h with h;injection h with h1 h2;subst h1 h2
  simp only[tt,seval,e0]
  refine cS (aI L hL hT s1 true (fun _=>d7 hop)) ?_ ?_<;>simp only[tt,seval,PB,sI]
  have ha2:=aR (L:=L) (d7 hop)
  obtain⟨k2,p2,n2,v2,q2,m2,ks2,ss2⟩:=y
  have c2:=hf5 _ _ _ hy ha2
  rw[ae] at c2
  apply bx 2
  case h1=>
   refine dDrawn.intro [19] (.take 0 (.take 2 (.br 1 (.br 3 (.br 4 (.take 5 (.br 6 .done .nobr)) .nobr) .nobr) (.br 3 (.take 1 (.br 4 (.take 5 (.br 6 .done .nobr)) .nobr)) .nobr)))) (by kernel_rfl) ?_
   simp only[tt,seval]
   all_goals repeat' first|refine cj ?_ ?_|refine aO ?_ ?_
   all_goals
    refine cS (c2) ?_ ?_
    ·simp only[tt,seval,PB]
     decide
    simp only[tt,seval,PB]
   all_goals exact⟨rfl,rfl,rfl⟩
  case h2=>
   intro f' hj0
   simp only[tt,seval,hj0]
   refine⟨.ag (ar (ft (cI L s1 4) (Expr.mk k1 p1 n1 v1 q1 m1 ks1 ss1) (Expr.mk k2 p2 n2 v2 q2 m2 ks2 ss2)).row),[PB L (s2)],⟨rfl,rfl⟩,ai ?_⟩
   simp only[tt,seval,dm,PB,ft,bC,z0,ae]
set_option maxHeartbeats 2000000 in
theorem Ao (L:List Tok) (hL:L.length<=1048576) (hT:∀t∈L,t.text.size<=1048576) {f:Nat->PM Expr} {q:PM Query} (ok:∀lv,OkM (L:=L) (f lv)) (okq:OkM (L:=L) q) (hf:∀lv:Nat,1<=lv->lv<=8->mc L 172 [vi lv] (f lv)) (hp:mc L 267 [] (f 9)) (hq:Am L 129 q):mc L 172 [vi (3:Nat)] (stepE L f q 3):=by
 intro s x s' h ha
 unfold stepE at h
 simp only[if_true] at h
 refine ah ab false Tryz.func172 rfl (by kernel_rfl) ?_
 simp only[Tryz.f172,tt,seval]
 refine cS (aV L hL hT s 15 (by omega) (by omega) ha) ?_ ?_<;>simp only[tt,seval,PB]
 cases c15:ap L s 15 with
 |true=>
  rw[if_pos c15] at h
  split at h
  ·cases h
  rename_i e s1 he
  injection h with h;injection h with h1 h2;subst h1 h2
  simp only[tt,seval,gC]
  obtain⟨k1,p1,n1,v1,q1,m1,ks1,ss1⟩:=e
  have c1:=hf 3 (by omega) (by omega) _ _ _ he (aR (ao c15))
  rw[ae] at c1
  refine cS (c1) ?_ ?_<;>simp only[tt,seval,PB]
  refine⟨.ag (ar (nD 15 (Expr.mk k1 p1 n1 v1 q1 m1 ks1 ss1)).row),[PB L (s1)],⟨rfl,rfl⟩,ai ?_⟩
  simp only[tt,seval,dm,PB,nD,bC,z0,ae]
 |false=>
  rw[if_neg (by rw[c15];simp)] at h
  simp only[tt,seval,fY]
  obtain⟨k1,p1,n1,v1,q1,m1,ks1,ss1⟩:=x
  have c1:=hf 4 (by omega) (by omega) _ _ _ h ha
  rw[ae] at c1
  refine cS (c1) ?_ ?_<;>simp only[tt,seval,PB]
  refine⟨.ag (ar ((Expr.mk k1 p1 n1 v1 q1 m1 ks1 ss1)).row),[PB L (s')],⟨rfl,rfl⟩,ai ?_⟩
  simp only[tt,seval,PB,ae]
theorem Ap (L:List Tok) (hL:L.length<=1048576) (hT:∀t∈L,t.text.size<=1048576) {f:Nat->PM Expr} {q:PM Query} (ok:∀lv,OkM (L:=L) (f lv)) (okq:OkM (L:=L) q) (hf:∀lv:Nat,1<=lv->lv<=8->mc L 172 [vi lv] (f lv)) (hp:mc L 267 [] (f 9)) (hq:Am L 129 q):mc L 172 [vi (4:Nat)] (stepE L f q 4):=by
 intro s x s' h ha
 have h:kj L f q s=some (x,s'):=h
 refine ah ab false Tryz.func172 rfl (by kernel_rfl) ?_
 simp only[Tryz.f172,tt,seval]
 obtain⟨k1,p1,n1,v1,q1,m1,ks1,ss1⟩:=x
 have c1:=ur L hL hT ok okq (hf 1 (by omega) (by omega)) (hf 5 (by omega) (by omega)) hq _ _ _ h ha
 rw[ae] at c1
 refine cS (c1) ?_ ?_<;>simp only[tt,seval,PB]
 refine⟨.ag (ar ((Expr.mk k1 p1 n1 v1 q1 m1 ks1 ss1)).row),[PB L (s')],⟨rfl,rfl⟩,ai ?_⟩
 simp only[tt,seval,PB,ae]
set_option maxHeartbeats 2000000 in
theorem Aq (L:List Tok) (hL:L.length<=1048576) (hT:∀t∈L,t.text.size<=1048576) {f:Nat->PM Expr} {q:PM Query} (ok:∀lv,OkM (L:=L) (f lv)) (okq:OkM (L:=L) q) (hf:∀lv:Nat,1<=lv->lv<=8->mc L 172 [vi lv] (f lv)) (hp:mc L 267 [] (f 9)) (hq:Am L 129 q):mc L 172 [vi (8:Nat)] (stepE L f q 8):=by
 intro s x s' h ha
 unfold stepE at h
 simp only[Nat.reduceEqDiff,if_false,if_true] at h
 refine ah ab false Tryz.func172 rfl (by kernel_rfl) ?_
 simp only[Tryz.f172,tt,seval]
 refine cS (bu L hL hT s 45 ha) ?_ ?_<;>simp only[tt,seval,PB]
 cases c45:aN L s 45 with
 |true=>
  rw[if_pos c45] at h
  split at h
  ·cases h
  rename_i e s1 he
  injection h with h;injection h with h1 h2;subst h1 h2
  simp only[tt,seval]
  refine cS (aI L hL hT s true (fun _=>ax c45)) ?_ ?_<;>simp only[tt,seval,PB,sI]
  obtain⟨k1,p1,n1,v1,q1,m1,ks1,ss1⟩:=e
  have c1:=hf 8 (by omega) (by omega) _ _ _ he (aR (ax c45))
  rw[ae] at c1
  refine cS (c1) ?_ ?_<;>simp only[tt,seval,PB]
  refine⟨.ag (ar (nD 16 (Expr.mk k1 p1 n1 v1 q1 m1 ks1 ss1)).row),[PB L (s1)],⟨rfl,rfl⟩,ai ?_⟩
  simp only[tt,seval,dm,PB,nD,bC,z0,ae]
 |false=>
  rw[if_neg (by rw[c45];simp)] at h
  simp only[tt,seval]
  obtain⟨k1,p1,n1,v1,q1,m1,ks1,ss1⟩:=x
  have c1:=hp _ _ _ h ha
  rw[ae] at c1
  refine cS (c1) ?_ ?_<;>simp only[tt,seval,PB]
  refine⟨.ag (ar ((Expr.mk k1 p1 n1 v1 q1 m1 ks1 ss1)).row),[PB L (s')],⟨rfl,rfl⟩,ai ?_⟩
  simp only[tt,seval,PB,ae]
theorem ut {L:List Tok} {s:PS} (w:Nat) (h:s.b=true):cI L s w=0:=by
 cases Nat.eq_zero_or_pos (cI L s w) with
 |inl e=>exact e
 |inr e=>have:=(d7 (L:=L) (s:=s) (lv:=w) (by omega)).1;rw[h] at this;cases this
set_option maxHeartbeats 4000000 in
theorem Ar (L:List Tok) (hL:L.length<=1048576) (hT:∀t∈L,t.text.size<=1048576) {f:Nat->PM Expr} {q:PM Query} (ok:∀lv,OkM (L:=L) (f lv)) (okq:OkM (L:=L) q) (hf:∀lv:Nat,1<=lv->lv<=8->mc L 172 [vi lv] (f lv)) (hp:mc L 267 [] (f 9)) (hq:Am L 129 q) (w:Nat) (hw:w∈[1,2,5,6,7]):mc L 172 [vi w] (stepE L f q w):=by
 intro s x s' h ha
 have hw2:w∈[1,2,4,5,6,7]:=by simp only[List.mem_cons,List.not_mem_nil,or_false] at hw ⊢;omega
 have hw3:¬w=3 /\ ¬w=4 /\ ¬w=8 /\ ¬w=9/\1<=w/\w<=7:=by simp only[List.mem_cons,List.not_mem_nil,or_false] at hw;omega
 obtain⟨w3,w4,w8,w9,w1,w7⟩:=hw3
 have g3:decide ((w:Int)=3)=false:=au (by omega)
 have g4:decide ((w:Int)=4)=false:=au (by omega)
 have g8:decide ((w:Int)=8)=false:=au (by omega)
 have p3:((w:Int)=3)=False:=eq_false (by omega)
 have p4:((w:Int)=4)=False:=eq_false (by omega)
 have p8:((w:Int)=8)=False:=eq_false (by omega)
 have ew:IntKind.i64.wrap ((w:Int)+1)=((w+1:Nat):Int):=aq (n:=(w:Int)+1) (by omega) (by omega)
 unfold stepE at h
 rw[if_neg w3,if_neg w4,if_neg w8,if_neg w9] at h
 split at h
 ·cases h
 rename_i e s1 he
 have o1:=ok (w+1) _ _ _ he
 have ha1:=o1.2.1 ha
 obtain⟨k1,p1,n1,v1,q1,m1,ks1,ss1⟩:=e
 have c1:=hf (w+1) (by omega) (by omega) _ _ _ he ha
 rw[ae] at c1
 refine ah ab false Tryz.func172 rfl (by kernel_rfl) ?_
 simp only[Tryz.f172,tt,seval]
 simp only[tt,seval,p3,p4,p8,ew]
 refine cS (c1) ?_ ?_<;>simp (config:={ maxSteps:=2000000 }) only[tt,seval,PB]
 refine dLoop.gh [] ?_
 refine dLoop0.introR (fun f' Lo p=>∃(e:Expr) (v:PS) (n:Nat),cJ L (f (w+1)) w n e v=some (x,s')/\v.a<=L.length/\(Lo=[(9000,.str (PB L v)),(5,.str (ar (e).row)),(4,.str [.v (.int .i64 0),.v (.int .i64 0),.v (.bool false),.v (.int .i64 0),.v (.int .i64 0),.v (.string ByteArray.empty),.v (.string ByteArray.empty),.v (.string ByteArray.empty),.v (.slice none 0 0),.v (.slice none 0 0)])]∨(∃(op:Nat) (a b:Expr),e=ft op a b/\Lo=[(9000,.str (PB L v)),(5,.str [.v (.int .i64 4),.v (.int .i64 op),.v (.bool false),.v (.int .i64 0),.v (.int .i64 0),.v (.string ByteArray.empty),.v (.string ByteArray.empty),.v (.string ByteArray.empty),.s 10056 2,.v (.slice none 0 0)]),(10056,.arr 52 2 ([a,b].flatMap Expr.row) none),(4,.str [.v (.int .i64 0),.v (.int .i64 0),.v (.bool false),.v (.int .i64 0),.v (.int .i64 0),.v (.string ByteArray.empty),.v (.string ByteArray.empty),.v (.string ByteArray.empty),.v (.slice none 0 0),.v (.slice none 0 0)])]))/\p=none) (fun _ Lo _=>L.length-w5 Lo) [(9000,.str (PB L s1)),(5,.str (ar ((Expr.mk k1 p1 n1 v1 q1 m1 ks1 ss1)).row)),(4,.str [.v (.int .i64 0),.v (.int .i64 0),.v (.bool false),.v (.int .i64 0),.v (.int .i64 0),.v (.string ByteArray.empty),.v (.string ByteArray.empty),.v (.string ByteArray.empty),.v (.slice none 0 0),.v (.slice none 0 0)])] none ⟨by rw[ae];exact ac rfl (ac rfl (ac rfl (al _))),an _,?_⟩ ?_
 ·simp only[tt,seval]
  exact⟨(Expr.mk k1 p1 n1 v1 q1 m1 ks1 ss1),s1,L.length+1,h,ha1,.inl rfl⟩
 ·rintro g' Lo p ⟨e,v,n,hm,hv,rfl|⟨op,a,b,rfl,rfl⟩,rfl⟩
  ·obtain⟨k1,p1,n1,v1,q1,m1,ks1,ss1⟩:=e
   rw[ae]
   simp only[tt,seval]
   cases n with
   |zero=>cases hm
   |succ n=>
   rw[cJ] at hm
   have fini:cI L v w=0->((Expr.mk k1 p1 n1 v1 q1 m1 ks1 ss1)=x/\v=s'):=fun e0=>by
    rw[if_pos e0] at hm
    injection hm with hm;injection hm with e1 e2;exact⟨e1,e2⟩
   cases hb:v.b with
   |true=>
    obtain⟨e1,e2⟩:=fini (ut w hb)
    subst e1 e2
    simp only[tt,seval,PB,hb]
    refine⟨.ag (ar ((Expr.mk k1 p1 n1 v1 q1 m1 ks1 ss1)).row),[PB L v],⟨rfl,by rw[PB,hb]⟩,ai ?_⟩
    simp only[tt,seval,PB,ae,hb]
   |false=>
   have hpb:PB L v=[.sl L.length (L.flatMap Tok.row) none,.v (.int .i64 v.a),.v (.bool false)]:=by rw[PB,hb]
   have cop:=sK L hL hT v w hw2 hv
   rw[hpb] at cop
   simp only[tt,seval,PB,hb]
   refine cS (cop) ?_ ?_<;>simp only[tt,seval]
   by_cases hop:cI L v w=0
   ·obtain⟨e1,e2⟩:=fini hop
    subst e1 e2
    have e0:decide (((cI L v w:Nat):Int)=0)=true:=av (by omega)
    simp only[tt,seval,hop,hb]
    refine⟨.ag (ar ((Expr.mk k1 p1 n1 v1 q1 m1 ks1 ss1)).row),[PB L v],⟨rfl,by rw[PB,hb]⟩,ai ?_⟩
    simp only[tt,seval,PB,ae,hb]
   ·have e0:decide (((cI L v w:Nat):Int)=0)=false:=au (by omega)
    have e1:(((cI L v w:Nat):Int)=0)=False:=eq_false (by omega)
    rw[if_neg hop] at hm
    split at hm
    ·cases hm
    rename_i z u hz
    have hav:=aR (L:=L) (d7 hop)
    have o3:=ok (w+1) _ _ _ hz
    have o3a:v.a+1<=u.a:=o3.1
    have hu:=o3.2.1 hav
    have hlt:=(d7 hop).2
    obtain⟨k2,p2,n2,v2,q2,m2,ks2,ss2⟩:=z
    have c2:=hf (w+1) (by omega) (by omega) _ _ _ hz hav
    rw[ae] at c2
    have cst:=aI L hL hT v true (fun _=>d7 hop)
    rw[hpb] at cst
    simp only[tt,seval,e1]
    refine cS (cst) ?_ ?_<;>simp only[tt,seval,PB,sI]
    apply bx 5
    case h1=>
     refine dDrawn.intro [55] (.take 0 (.take 2 (.take 3 (.take 4 (.br 1 (.br 5 (.br 6 (.take 7 (.br 8 .done .nobr)) .nobr) .nobr) (.br 5 (.take 1 (.br 6 (.take 7 (.br 8 .done .nobr)) .nobr)) .nobr)))))) (by kernel_rfl) ?_
     simp only[tt,seval]
     all_goals repeat' first|refine cj ?_ ?_|refine aO ?_ ?_
     all_goals
      refine cS (c2) ?_ ?_
      ·simp (config:={ maxSteps:=2000000 }) only[tt,seval,PB,ew]
       decide
      simp (config:={ maxSteps:=2000000 }) only[tt,seval,PB,ew]
     all_goals exact⟨rfl,rfl,rfl⟩
    case h2=>
     intro f' hj0
     refine⟨[.ren 56 10056],by decide,by decide,?_⟩
     simp only[tt,seval]
     refine⟨[(9000,.str (PB L u)),(5,.str [.v (.int .i64 4),.v (.int .i64 (cI L v w)),.v (.bool false),.v (.int .i64 0),.v (.int .i64 0),.v (.string ByteArray.empty),.v (.string ByteArray.empty),.v (.string ByteArray.empty),.s 10056 2,.v (.slice none 0 0)]),(10056,.arr 52 2 ([(Expr.mk k1 p1 n1 v1 q1 m1 ks1 ss1),(Expr.mk k2 p2 n2 v2 q2 m2 ks2 ss2)].flatMap Expr.row) none),(4,.str [.v (.int .i64 0),.v (.int .i64 0),.v (.bool false),.v (.int .i64 0),.v (.int .i64 0),.v (.string ByteArray.empty),.v (.string ByteArray.empty),.v (.string ByteArray.empty),.v (.slice none 0 0),.v (.slice none 0 0)])],none,by simp only[dm,PB,ae,List.flatMap_nil,List.flatMap_cons,List.append_nil];exact ac rfl (ac rfl (ac rfl (ac rfl (al _)))),an _,⟨ft (cI L v w) (Expr.mk k1 p1 n1 v1 q1 m1 ks1 ss1) (Expr.mk k2 p2 n2 v2 q2 m2 ks2 ss2),u,n,hm,hu,.inr ⟨_,(Expr.mk k1 p1 n1 v1 q1 m1 ks1 ss1),(Expr.mk k2 p2 n2 v2 q2 m2 ks2 ss2),rfl,rfl⟩,rfl⟩,?_⟩
     show L.length-((u.a:Int)).toNat<L.length-((v.a:Int)).toNat
     omega
  ·skip
   simp only[tt,seval]
   cases n with
   |zero=>cases hm
   |succ n=>
   rw[cJ] at hm
   have fini:cI L v w=0->((ft op a b)=x/\v=s'):=fun e0=>by
    rw[if_pos e0] at hm
    injection hm with hm;injection hm with e1 e2;exact⟨e1,e2⟩
   cases hb:v.b with
   |true=>
    obtain⟨e1,e2⟩:=fini (ut w hb)
    subst e1 e2
    simp only[tt,seval,PB,hb]
    refine⟨.ag (ar ((ft op a b)).row),[PB L v],⟨rfl,by rw[PB,hb]⟩,ai ?_⟩
    simp only[tt,seval,dm,PB,ft,bC,z0,ae,hb]
   |false=>
   have hpb:PB L v=[.sl L.length (L.flatMap Tok.row) none,.v (.int .i64 v.a),.v (.bool false)]:=by rw[PB,hb]
   have cop:=sK L hL hT v w hw2 hv
   rw[hpb] at cop
   simp only[tt,seval,PB,hb]
   refine cS (cop) ?_ ?_<;>simp only[tt,seval]
   by_cases hop:cI L v w=0
   ·obtain⟨e1,e2⟩:=fini hop
    subst e1 e2
    have e0:decide (((cI L v w:Nat):Int)=0)=true:=av (by omega)
    simp only[tt,seval,hop,hb]
    refine⟨.ag (ar ((ft op a b)).row),[PB L v],⟨rfl,by rw[PB,hb]⟩,ai ?_⟩
    simp only[tt,seval,dm,PB,ft,bC,z0,ae,hb]
   ·have e0:decide (((cI L v w:Nat):Int)=0)=false:=au (by omega)
    have e1:(((cI L v w:Nat):Int)=0)=False:=eq_false (by omega)
    rw[if_neg hop] at hm
    split at hm
    ·cases hm
    rename_i z u hz
    have hav:=aR (L:=L) (d7 hop)
    have o3:=ok (w+1) _ _ _ hz
    have o3a:v.a+1<=u.a:=o3.1
    have hu:=o3.2.1 hav
    have hlt:=(d7 hop).2
    obtain⟨k2,p2,n2,v2,q2,m2,ks2,ss2⟩:=z
    have c2:=hf (w+1) (by omega) (by omega) _ _ _ hz hav
    rw[ae] at c2
    have cst:=aI L hL hT v true (fun _=>d7 hop)
    rw[hpb] at cst
    simp only[tt,seval,e1]
    refine cS (cst) ?_ ?_<;>simp only[tt,seval,PB,sI]
    apply bx 5
    case h1=>
     refine dDrawn.intro [55] (.take 0 (.take 2 (.take 3 (.take 4 (.br 1 (.br 5 (.br 6 (.take 7 (.br 8 .done .nobr)) .nobr) .nobr) (.br 5 (.take 1 (.br 6 (.take 7 (.br 8 .done .nobr)) .nobr)) .nobr)))))) (by kernel_rfl) ?_
     simp only[tt,seval]
     all_goals repeat' first|refine cj ?_ ?_|refine aO ?_ ?_
     all_goals
      refine cS (c2) ?_ ?_
      ·simp (config:={ maxSteps:=2000000 }) only[tt,seval,PB,ew]
       decide
      simp (config:={ maxSteps:=2000000 }) only[tt,seval,PB,ew]
     all_goals exact⟨rfl,rfl,rfl⟩
    case h2=>
     intro f' hj0
     refine⟨[.ren 56 10056],by decide,by decide,?_⟩
     simp only[tt,seval]
     refine⟨[(9000,.str (PB L u)),(5,.str [.v (.int .i64 4),.v (.int .i64 (cI L v w)),.v (.bool false),.v (.int .i64 0),.v (.int .i64 0),.v (.string ByteArray.empty),.v (.string ByteArray.empty),.v (.string ByteArray.empty),.s 10056 2,.v (.slice none 0 0)]),(10056,.arr 52 2 ([(ft op a b),(Expr.mk k2 p2 n2 v2 q2 m2 ks2 ss2)].flatMap Expr.row) none),(4,.str [.v (.int .i64 0),.v (.int .i64 0),.v (.bool false),.v (.int .i64 0),.v (.int .i64 0),.v (.string ByteArray.empty),.v (.string ByteArray.empty),.v (.string ByteArray.empty),.v (.slice none 0 0),.v (.slice none 0 0)])],none,by simp only[dm,PB,ft,bC,z0,ae,List.flatMap_nil,List.flatMap_cons,List.append_nil,List.length_nil,List.length_cons];exact ac rfl (ac rfl (ac rfl (ac rfl (al _)))),an _,⟨ft (cI L v w) (ft op a b) (Expr.mk k2 p2 n2 v2 q2 m2 ks2 ss2),u,n,hm,hu,.inr ⟨_,(ft op a b),(Expr.mk k2 p2 n2 v2 q2 m2 ks2 ss2),rfl,rfl⟩,rfl⟩,?_⟩
     show L.length-((u.a:Int)).toNat<L.length-((v.a:Int)).toNat
     omega
end Go.Proofs.YtbodcedhmccenaaGreatDoor
