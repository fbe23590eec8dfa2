/-
  The reference's parser, first half.
  Conditions: none.
-/
import Derived.Test.YtbodcedhmccenaaGreatDoorPFJ1
set_option linter.unusedVariables false
set_option linter.unusedSimpArgs false
set_option linter.defProp false
set_option linter.unusedSectionVars false
set_option maxRecDepth 8000
namespace Go.Proofs.YtbodcedhmccenaaGreatDoor
open Go Go.Dv
open Go.Vc (D dg dh cX bk)
def PB (L:List Tok) (s:PS):List C:=[.sl L.length (L.flatMap Tok.row) none,.v (.int .i64 s.a),.v (.bool s.b)]
def pX (L:List Tok) (s:PS) (k:Nat):Tok:=(gK L s k).getD ⟨0,⟨#[]⟩,0⟩
theorem Cg (L:List Tok) (s:PS) (k:Nat) (kind:Int) (x:ByteArray) (h:kind≠0):(decide ((pX L s k).kind=kind)&&decide ((pX L s k).text=x))=jp L s k kind x:=by
 unfold pX jp
 cases gK L s k with
 |none=>simp [Ne.symm h]
 |some t=>rfl
theorem Ju (L:List Tok) (s:PS) (kind:Int) (h:kind≠0):(decide ((pX L s 0).kind=kind)&&aJ (pX L s 0))=iZ L s kind:=by
 unfold pX iZ
 cases gK L s 0 with
 |none=>simp [Ne.symm h]
 |some t=>rfl
theorem zk (L:List Tok) (s:PS):(pX L s 0).text=bv L s:=by
 unfold pX bv
 cases gK L s 0 with
 |none=>rfl
 |some t=>rfl
theorem vM {L:List Tok} (hL:L.length<=1048576) (hT:∀t∈L,t.text.size<=1048576) (s:PS) (k:Nat):(pX L s k).text.size<=1048576:=by
 unfold pX
 cases h:gK L s k with
 |none=>exact Nat.zero_le _
 |some t=>
  unfold gK at h
  split at h
  ·cases h
  ·exact hT t (List.mem_of_getElem? h)
theorem gi (L:List Tok) (hL:L.length<=1048576) (hT:∀t∈L,t.text.size<=1048576) (s:PS) (k:Nat) (hk:k<=100) (ha:s.a<=L.length):Cl Tryz.prog 227 [.c (.p 9000 0),vi k] [PB L s] fun r os=>r = .ag (ar (pX L s k).row)/\os=[PB L s]:=by
 obtain⟨a,b⟩:=s
 have ha:a<=L.length:=ha
 cases b with
 |true=>
  have e:pX L ⟨a,true⟩ k=⟨0,⟨#[]⟩,0⟩:=rfl
  rw[e]
  refine ai ac false Tryz.func227 rfl ae ?_
  simp only[Tryz.f227,tt,seval]
  refine dDrawn.intro [] (j3 [0,2,4,6,8,10,12,14,16,18,20,22,24,26,28,30,32,34]) ae ?_
  simp only[tt,seval]
  simp only[tt,seval,PB]
  refine⟨_,[PB L ⟨a,true⟩],⟨rfl,rfl⟩,am ?_⟩
  simp only[tt,seval,PB,Tok.row]
  rfl
 |false=>
  refine ai ac false Tryz.func227 rfl ae ?_
  simp only[Tryz.f227,tt,seval]
  refine dDrawn.intro [] (j3 [0,2,4,6,8,10,12,14,16,18,20,22,24,26,28,30,32,34]) ae ?_
  simp only[tt,seval]
  simp only[tt,seval,PB]
  rw[ax (n:=(a:Int)+k) aa aa]
  refine fun _=>ab (fun hge=>?_) (fun hlt=>?_)
  ·have e:pX L ⟨a,false⟩ k=⟨0,⟨#[]⟩,0⟩:=by
    show (L[a+k]?).getD _=_
    rw[List.getElem?_eq_none_iff.2 aa];rfl
   rw[e]
   refine⟨_,[PB L ⟨a,false⟩],⟨rfl,rfl⟩,am ?_⟩
   simp only[tt,seval,PB,Tok.row]
   rfl
  ·have hlt:a+k<L.length:=by omega
   have e:pX L ⟨a,false⟩ k=L[a+k]:=by
    show (L[a+k]?).getD _=_
    rw[aD hlt];rfl
   rw[e]
   refine dDrawn.intro [] (j3 [0,2,4,6,8,10,12,14,16,18,20,22,25]) ae ?_
   simp only[tt,seval]
   rw[ax (n:=(a:Int)+k) aa aa]
   have e2:((a:Int)+(k:Int)).toNat=a+k:=by omega
   simp only[e2]
   refine⟨aa,aa,_,aH cY (aD aa),Tok.ne _ _,?_⟩
   simp only[tt,seval,Tok.row]
   refine⟨_,[PB L ⟨a,false⟩],⟨rfl,rfl⟩,am ?_⟩
   simp only[tt,seval,PB]
theorem eN (L:List Tok) (hL:L.length<=1048576) (hT:∀t∈L,t.text.size<=1048576) (s:PS) (k:Nat) (h1:1<=k) (h2:k<=28) (ha:s.a<=L.length):Cl Tryz.prog 126 [.c (.p 9000 0),vi k] [PB L s] fun r os=>r=vb (aw L s k)/\os=[PB L s]:=by
 rw[show aw L s k=_ from (Cg L s 0 1 (kw k) ah).symm]
 refine ai ac false Tryz.func126 rfl ae ?_
 simp only[Tryz.f126,tt,seval]
 refine cS (gi L hL hT s 0 aa ha) ?_ ?_<;>simp only[tt,seval,PB,Tok.row]
 refine dDrawn.intro [] (j3 [0,2,4,6,8,10,12,15,16,18,20]) ae ?_
 simp only[tt,seval]
 generalize pX L s 0=t at *
 by_cases hk:t.kind=1
 ·simp only[tt,seval,az hk]
  refine cZ (sU k h1 h2) ?_ ?_<;>simp only[tt,seval]
  refine⟨_,[PB L s],⟨rfl,rfl⟩,am ?_⟩
  simp only[tt,seval,PB]
 ·simp only[tt,seval,au hk]
  refine⟨_,[PB L s],⟨rfl,rfl⟩,am ?_⟩
  simp only[tt,seval,PB]
theorem AJ (L:List Tok) (hL:L.length<=1048576) (hT:∀t∈L,t.text.size<=1048576) (s:PS) (x:ByteArray) (ha:s.a<=L.length):Cl Tryz.prog 226 [.c (.p 9000 0),vs x] [PB L s] fun r os=>r=vb (jp L s 0 5 x)/\os=[PB L s]:=by
 rw[show jp L s 0 5 x=_ from (Cg L s 0 5 x ah).symm]
 refine ai ac false Tryz.func226 rfl ae ?_
 simp only[Tryz.f226,tt,seval]
 refine cS (gi L hL hT s 0 aa ha) ?_ ?_<;>simp only[tt,seval,PB,Tok.row]
 generalize pX L s 0=t at *
 by_cases hk:t.kind=5
 ·simp only[tt,seval,az hk]
  refine⟨_,[PB L s],⟨rfl,rfl⟩,am ?_⟩
  simp only[tt,seval,PB]
 ·simp only[tt,seval,au hk]
  refine⟨_,[PB L s],⟨rfl,rfl⟩,am ?_⟩
  simp only[tt,seval,PB]
theorem jz (L:List Tok) (hL:L.length<=1048576) (hT:∀t∈L,t.text.size<=1048576) (s:PS) (k:Nat) (h1:1<=k) (ha:s.a<=L.length):Cl Tryz.prog 229 [.c (.p 9000 0),vi k] [PB L s] fun r os=>r=vb (iZ L s k)/\os=[PB L s]:=by
 rw[show iZ L s k=_ from (Ju L s k aa).symm]
 refine ai ac false Tryz.func229 rfl ae ?_
 simp only[Tryz.f229,tt,seval]
 refine cS (gi L hL hT s 0 aa ha) ?_ ?_<;>simp only[tt,seval,PB,Tok.row]
 have hs:=vM hL hT s 0
 generalize pX L s 0=t at *
 by_cases hk:t.kind=k
 ·simp only[tt,seval,az hk]
  refine cZ (cR t hs) ?_ ?_<;>simp only[tt,seval,Tok.row]
  refine⟨_,[PB L s],⟨rfl,rfl⟩,am ?_⟩
  simp only[tt,seval,PB]
 ·simp only[tt,seval,au hk]
  refine⟨_,[PB L s],⟨rfl,rfl⟩,am ?_⟩
  simp only[tt,seval,PB]
theorem bf (L:List Tok) (hL:L.length<=1048576) (hT:∀t∈L,t.text.size<=1048576) (s:PS) (c:Bool) (hc:c=true->s.b=false/\s.a<L.length):Cl Tryz.prog 125 [.c (.p 9000 0),vb c] [PB L s] fun r os=>r = .tu []/\os=[PB L (must c s)]:=by
 obtain⟨a,b⟩:=s
 cases c with
 |true=>
  obtain⟨rfl,ha⟩:=hc rfl
  have ha:a<L.length:=ha
  refine ai ac false Tryz.func125 rfl ae ?_
  simp only[Tryz.f125,tt,seval]
  simp only[tt,seval,PB]
  rw[ax (n:=(a:Int)+1) aa aa]
  refine⟨_,[PB L ⟨a+1,false⟩],⟨rfl,rfl⟩,am ?_⟩
  simp only[tt,seval,PB]
  rfl
 |false=>
  refine ai ac false Tryz.func125 rfl ae ?_
  simp only[Tryz.f125,tt,seval]
  simp only[tt,seval,PB]
  refine⟨_,[PB L ⟨a,true⟩],⟨rfl,rfl⟩,am ?_⟩
  simp only[tt,seval,PB]
theorem bx (L:List Tok) (hL:L.length<=1048576) (hT:∀t∈L,t.text.size<=1048576) (s:PS) (k:Nat) (h1:1<=k) (h2:k<=28) (ha:s.a<=L.length):Cl Tryz.prog 122 [.c (.p 9000 0),vi k] [PB L s] fun r os=>r=vb (aw L s k)/\os=[PB L (tkIf (aw L s k) s)]:=by
 refine ai ac false Tryz.func122 rfl ae ?_
 simp only[Tryz.f122,tt,seval]
 refine cS (eN L hL hT s k h1 h2 ha) ?_ ?_<;>simp only[tt,seval,PB]
 cases hk:aw L s k with
 |true=>
  simp only[tt,seval]
  refine cS (bf L hL hT s true (fun _=>aA hk)) ?_ ?_<;>simp only[tt,seval,PB]
  refine⟨_,[PB L (adv s)],⟨rfl,rfl⟩,am ?_⟩
  simp only[tt,seval,PB,must]
 |false=>
  simp only[tt,seval]
  refine⟨_,[PB L s],⟨rfl,rfl⟩,am ?_⟩
  simp only[tt,seval,PB]
theorem eU (L:List Tok) (hL:L.length<=1048576) (hT:∀t∈L,t.text.size<=1048576) (s:PS) (k:Nat) (h1:1<=k) (ha:s.a<=L.length):Cl Tryz.prog 127 [.c (.p 9000 0),vi k] [PB L s] fun r os=>r=vs (mText L k s).1/\os=[PB L (mText L k s).2]:=by
 refine ai ac false Tryz.func127 rfl ae ?_
 simp only[Tryz.f127,tt,seval]
 refine cS (gi L hL hT s 0 aa ha) ?_ ?_<;>simp only[tt,seval,PB,Tok.row]
 refine cS (jz L hL hT s k h1 ha) ?_ ?_<;>simp only[tt,seval,PB]
 refine cS (bf L hL hT s (iZ L s k) (fun h=>gL h)) ?_ ?_<;>simp only[tt,seval,PB]
 cases hk:iZ L s k with
 |true=>
  obtain⟨hb,_⟩:=gL hk
  simp only[tt,seval,must,adv,hb]
  refine⟨vs (pX L s 0).text,[PB L (adv s)],⟨?_,?_⟩,am ?_⟩
  ·rw[mText,if_pos hk,zk]
  ·rw[mText,if_pos hk];rfl
  ·simp only[tt,seval,PB,adv,hb]
 |false=>
  simp only[tt,seval,must,fl]
  refine⟨vs ⟨#[]⟩,[PB L (fl s)],⟨?_,?_⟩,am ?_⟩
  ·rw[mText,if_neg (by rw[hk];simp)]
  ·rw[mText,if_neg (by rw[hk];simp)];rfl
  ·simp only[tt,seval,PB,fl]
theorem jq (s:PS):tkIf true s=adv s:=rfl
theorem jb (s:PS):tkIf false s=s:=rfl
theorem xA (s:PS):must true s=adv s:=rfl
theorem Jv (s:PS):must false s=fl s:=rfl
def pF (L:List Tok) (fn:FuncId) (args:List S) (m:PM Expr):Prop:=∀s e s',m s=some (e,s')->s.a<=L.length->Cl Tryz.prog fn (.c (.p 9000 0)::args) [PB L s] fun r os=>r = .ag (ar e.row)/\os=[PB L s']
def Ef (L:List Tok) (fn:FuncId) (m:PM Query):Prop:=∀s e s',m s=some (e,s')->s.a<=L.length->Cl Tryz.prog fn [.c (.p 9000 0)] [PB L s] fun r os=>r = .ag (ar e.row)/\os=[PB L s']
theorem ki {L:List Tok} (hL:L.length<=1048576) (hT:∀t∈L,t.text.size<=1048576) (s:PS):(bv L s).size<=1048576:=by
 rw[<-zk];exact vM hL hT s 0
theorem bo {L:List Tok} {s:PS} (h:s.b=false/\s.a<L.length):(adv s).a<=L.length:=h.2
theorem kl {L:List Tok} {s:PS} {k:Int} (h:iZ L s k=true):mText L k s=(bv L s,adv s):=by rw[mText,if_pos h]
theorem qW {L:List Tok} {s:PS} {k:Nat} {c:UInt8} (h:aw L s k=true):bt L s c=false:=by
 unfold aw jp at h
 unfold bt jp
 cases ht:gK L s 0 with
 |none=>rfl
 |some t=>
  rw[ht] at h
  simp only[Bool.and_eq_true,decide_eq_true_eq] at h
  simp [h.1]
theorem fW:ByteArray.empty=⟨#[]⟩:=rfl
def rW:=ab @fW (ab @PB.eq_1 (ab @dj.eq_1 (ab @lg.eq_1 (ab @bR.eq_1 (ab @se.eq_1 (ab @ed.eq_1 (ab @zExpr.eq_1 (ab @zVal.eq_1 (ab @z0.eq_1 (ab @al (ab @aF (ab @List.flatMap_nil.{0,0} (ab @List.flatMap_cons.{0,0} (ab @List.append_nil.{0} (ab @List.length_nil.{0} @List.length_cons.{0})))))))))))))))
theorem vN (s:ByteArray):Cl Tryz.prog 312 [vs s] [] fun r _=>r = .ag (ar (Val.mk 2 0 s).row):=by
 refine ai ac false Tryz.func312 rfl ae ?_
 simp only[Tryz.f312,tt,seval]
 refine⟨.ag (ar (Val.mk 2 0 s).row),[],rfl,ap rfl⟩
theorem vO:Cl Tryz.prog 313 [vb true] [] fun r _=>r = .ag (ar (Val.mk 3 1 z0).row):=by
 refine ai ac false Tryz.func313 rfl ae ?_
 simp only[Tryz.f313,tt,seval]
 refine⟨.ag (ar (Val.mk 3 1 z0).row),[],rfl,am ?_⟩
 simp only[tt,seval,Val.row,z0,fW]
theorem vP:Cl Tryz.prog 313 [vb false] [] fun r _=>r = .ag (ar (Val.mk 3 0 z0).row):=by
 refine ai ac false Tryz.func313 rfl ae ?_
 simp only[Tryz.f313,tt,seval]
 refine⟨.ag (ar (Val.mk 3 0 z0).row),[],rfl,am ?_⟩
 simp only[tt,seval,Val.row,z0,fW]
theorem cE (L:List Tok) (hL:L.length<=1048576) (hT:∀t∈L,t.text.size<=1048576) (s:PS) (c:UInt8) (ha:s.a<=L.length):Cl Tryz.prog 226 [.c (.p 9000 0),vs ⟨#[c]⟩] [PB L s] fun r os=>r=vb (bt L s c)/\os=[PB L s]:=AJ L hL hT s ⟨#[c]⟩ ha
theorem mm (L:List Tok) (hL:L.length<=1048576) (hT:∀t∈L,t.text.size<=1048576) (s:PS) (ha:s.a<=L.length):Cl Tryz.prog 289 [.c (.p 9000 0)] [PB L s] fun r os=>r=vs (asM L s).1/\os=[PB L (asM L s).2]:=by
 refine ai ac false Tryz.func289 rfl ae ?_
 simp only[Tryz.f289,tt,seval]
 refine cS (bx L hL hT s 12 aa aa ha) ?_ ?_<;>simp only[tt,seval,PB]
 cases c:aw L s 12 with
 |true=>
  have hm:asM L s=mText L 2 (adv s):=by rw[asM,if_pos c]
  rw[hm]
  simp only[tt,seval,jq]
  refine cS (eU L hL hT (adv s) 2 aa (bo (aA c))) ?_ ?_<;>simp only[tt,seval,PB]
  refine⟨_,[PB L (mText L 2 (adv s)).2],⟨rfl,rfl⟩,am ?_⟩
  simp only[tt,seval,PB]
 |false=>
  have hm:asM L s=(z0,s):=by rw[asM,if_neg (by rw[c];simp)]
  rw[hm]
  simp only[tt,seval,jb]
  refine⟨vs z0,[PB L s],⟨rfl,rfl⟩,am ?_⟩
  simp only[tt,seval,PB,z0]
set_option maxHeartbeats 1000000 in
theorem ug (L:List Tok) (hL:L.length<=1048576) (hT:∀t∈L,t.text.size<=1048576) {f:Nat->PM Expr} {q:PM Query} (ok1:OkM (L:=L) (f 1)) (okq:OkM (L:=L) q) (hf:pF L 172 [vi 1] (f 1)) (hq:Ef L 129 q):pF L 267 [] (dk L f q):=by
 intro s e s' h ha
 have hts:=ki hL hT s
 unfold dk at h
 simp only at h
 refine ai ac false Tryz.func267 rfl ae ?_
 simp only[Tryz.f267,tt,seval]
 refine cS (jz L hL hT s 3 aa ha) ?_ ?_<;>simp only[tt,seval,PB]
 cases c3:iZ L s 3 with
 |true=>
  rw[if_pos c3] at h
  injection h with h;injection h with h1 h2;subst h1 h2
  simp only[tt,seval]
  refine cS (eU L hL hT s 3 aa ha) ?_ ?_<;>simp only[tt,seval,PB]
  rw[kl c3]
  refine cZ (nI (bv L s) hts) ?_ ?_<;>simp only[tt,seval,mA]
  refine⟨.ag (ar (dj ⟨1,fG (bv L s),z0⟩).row),[PB L (adv s)],⟨rfl,rfl⟩,am ?_⟩
  simp only[tt,seval,fW,PB,dj,z0,al]
 |false=>
 rw[if_neg (by rw[c3];simp)] at h
 simp only[tt,seval]
 refine cS (jz L hL hT s 4 aa ha) ?_ ?_<;>simp only[tt,seval,PB]
 cases c4:iZ L s 4 with
 |true=>
  rw[if_pos c4] at h
  injection h with h;injection h with h1 h2;subst h1 h2
  simp only[tt,seval]
  refine cS (eU L hL hT s 4 aa ha) ?_ ?_<;>simp only[tt,seval,PB]
  rw[kl c4]
  refine cZ (vN (bv L s)) ?_ ?_<;>simp only[tt,seval,Val.row]
  refine⟨.ag (ar (dj ⟨2,0,bv L s⟩).row),[PB L (adv s)],⟨rfl,rfl⟩,am ?_⟩
  simp only[tt,seval,fW,PB,dj,z0,al]
 |false=>
 rw[if_neg (by rw[c4];simp)] at h
 simp only[tt,seval]
 refine cS (bx L hL hT s 20 aa aa ha) ?_ ?_<;>simp only[tt,seval,PB]
 cases c20:aw L s 20 with
 |true=>
  rw[if_pos c20] at h
  injection h with h;injection h with h1 h2;subst h1 h2
  simp only[tt,seval,jq]
  refine⟨.ag (ar (dj zVal).row),[PB L (adv s)],⟨rfl,rfl⟩,am ?_⟩
  simp only[tt,seval,fW,PB,dj,zVal,z0,al]
 |false=>
 rw[if_neg (by rw[c20];simp)] at h
 simp only[tt,seval,jb]
 refine cS (bx L hL hT s 21 aa aa ha) ?_ ?_<;>simp only[tt,seval,PB]
 cases c21:aw L s 21 with
 |true=>
  rw[if_pos c21] at h
  injection h with h;injection h with h1 h2;subst h1 h2
  simp only[tt,seval,jq]
  refine cZ (vO) ?_ ?_<;>simp only[tt,seval,Val.row]
  refine⟨.ag (ar (dj ⟨3,1,z0⟩).row),[PB L (adv s)],⟨rfl,rfl⟩,am ?_⟩
  simp only[tt,seval,fW,PB,dj,z0,al]
 |false=>
 rw[if_neg (by rw[c21];simp)] at h
 simp only[tt,seval,jb]
 refine cS (bx L hL hT s 22 aa aa ha) ?_ ?_<;>simp only[tt,seval,PB]
 cases c22:aw L s 22 with
 |true=>
  rw[if_pos c22] at h
  injection h with h;injection h with h1 h2;subst h1 h2
  simp only[tt,seval,jq]
  refine cZ (vP) ?_ ?_<;>simp only[tt,seval,Val.row]
  refine⟨.ag (ar (dj ⟨3,0,z0⟩).row),[PB L (adv s)],⟨rfl,rfl⟩,am ?_⟩
  simp only[tt,seval,fW,PB,dj,z0,al]
 |false=>
 rw[if_neg (by rw[c22];simp)] at h
 simp only[tt,seval,jb]
 refine cS (jz L hL hT s 2 aa ha) ?_ ?_<;>simp only[tt,seval,PB]
 cases c2:iZ L s 2 with
 |true=>
  rw[if_pos c2] at h
  simp only[tt,seval]
  refine cS (eU L hL hT s 2 aa ha) ?_ ?_<;>simp only[tt,seval,PB]
  rw[kl c2]
  simp only[seval]
  have ha1:=bo (L:=L) (gL c2)
  refine cS (cE L hL hT (adv s) 46 ha1) ?_ ?_<;>simp only[tt,seval,PB]
  cases cd:bt L (adv s) 46 with
  |true=>
   rw[if_pos cd] at h
   injection h with h;injection h with h1 h2;subst h1 h2
   simp only[tt,seval]
   refine cS (bf L hL hT (adv s) true (fun _=>aK cd)) ?_ ?_<;>simp only[tt,seval,PB,xA]
   refine cS (eU L hL hT (adv (adv s)) 2 aa (bo (aK cd))) ?_ ?_<;>simp only[tt,seval,PB]
   refine⟨.ag (ar (lg (bv L s) (mText L 2 (adv (adv s))).1).row),[PB L ((mText L 2 (adv (adv s))).2)],⟨rfl,rfl⟩,am ?_⟩
   simp only[tt,seval,fW,PB,lg,zVal,al]
  |false=>
   rw[if_neg (by rw[cd];simp)] at h
   injection h with h;injection h with h1 h2;subst h1 h2
   simp only[tt,seval]
   refine⟨.ag (ar (lg z0 (bv L s)).row),[PB L (adv s)],⟨rfl,rfl⟩,am ?_⟩
   simp only[tt,seval,fW,PB,lg,zVal,z0,al]
 |false=>
 simp only[tt,seval]
 refine cS (bx L hL hT s 19 aa aa ha) ?_ ?_<;>simp only[tt,seval,PB]
 cases c19:aw L s 19 with
 |true=>
  rw[if_neg (by rw[c2];simp),if_neg (by rw[qW c19];simp),if_pos c19] at h
  simp only[tt,seval,jq]
  have ha1:=bo (L:=L) (aA c19)
  have o1:Ok L (adv s) (must (bt L (adv s) 40) (adv s)):=Ok.must fun h=>aK h
  refine cS (cE L hL hT (adv s) 40 ha1) ?_ ?_<;>simp only[tt,seval,PB]
  refine cS (bf L hL hT (adv s) (bt L (adv s) 40) (fun h=>aK h)) ?_ ?_<;>simp only[tt,seval,PB]
  split at h
  ·cases h
  ·rename_i x t hx
   injection h with h;injection h with h1 h2;subst h1 h2
   have o2:=okq _ _ _ hx
   obtain⟨d,its,frs,whs,ods,lim⟩:=x
   have c:=hq _ _ _ hx (o1.2.1 ha1)
   rw[aF] at c
   refine cS (c) ?_ ?_<;>simp only[tt,seval,PB]
   refine cS (cE L hL hT t 41 (o2.2.1 (o1.2.1 ha1))) ?_ ?_<;>simp only[tt,seval,PB]
   refine cS (bf L hL hT t (bt L t 41) (fun h=>aK h)) ?_ ?_<;>simp only[tt,seval,PB]
   refine⟨.ag (ar (bR 9 false [] [.mk d its frs whs ods lim]).row),[PB L (must (bt L t 41) t)],⟨rfl,rfl⟩,am ?_⟩
   simp only[tt,seval,fW,PB,bR,zVal,z0,al,aF]
 |false=>
 simp only[tt,seval,jb]
 rw[if_neg (by rw[c2];simp)] at h
 refine cS (cE L hL hT s 40 ha) ?_ ?_<;>simp only[tt,seval,PB]
 refine cS (bf L hL hT s (bt L s 40) (fun h=>aK h)) ?_ ?_<;>simp only[tt,seval,PB]
 cases cl:bt L s 40 with
 |true=>
  obtain⟨hb,hlt⟩:=aK cl
  rw[if_pos cl] at h
  have ha1:=bo (L:=L) (aK cl)
  have hb1:(adv s).b=false:=hb
  split at h
  ·cases h
  ·rename_i x t hx
   injection h with h;injection h with h1 h2;subst h1 h2
   have o2:=ok1 _ _ _ hx
   obtain⟨k0,o0,n0,v0,q0,m0,ks0,ss0⟩:=x
   have c:=hf _ _ _ hx ha1
   rw[al] at c
   simp only[tt,seval,xA,hb1]
   have e0:PB L (adv s)=[.sl L.length (L.flatMap Tok.row) none,.v (.int .i64 (adv s).a),.v (.bool false)]:=by rw[PB,hb1]
   rw[e0] at c
   refine cS (c) ?_ ?_<;>simp only[tt,seval,PB]
   refine cS (cE L hL hT t 41 (o2.2.1 ha1)) ?_ ?_<;>simp only[tt,seval,PB]
   refine cS (bf L hL hT t (bt L t 41) (fun h=>aK h)) ?_ ?_<;>simp only[tt,seval,PB]
   refine⟨.ag (ar (Expr.mk k0 o0 n0 v0 q0 m0 ks0 ss0).row),[PB L (must (bt L t 41) t)],⟨rfl,rfl⟩,am ?_⟩
   simp only[tt,seval,fW,PB,al]
 |false=>
  rw[if_neg (by rw[cl];simp),if_neg (by rw[c19];simp)] at h
  injection h with h;injection h with h1 h2;subst h1 h2
  simp only[tt,seval,Jv,fl]
  refine⟨.ag (ar (zExpr).row),[PB L (fl s)],⟨rfl,rfl⟩,am ?_⟩
  simp only[tt,seval,fW,PB,zExpr,zVal,z0,al,fl]
def Eg (Lo:Ob):Nat:=match Go.Dv.look Lo 9000 with|some (.str [_,.v (.int _ a),_])=>a.toNat|_=>0
theorem EQ (l:List Expr) (k0 o0:Int) (n0:Bool) (v0:Val) (q0 m0:ByteArray) (ks0:List Expr) (ss0:List Query):l.flatMap Expr.row++[int k0,int o0,bool n0,int v0.kind,int v0.num,str v0.text,str q0,str m0,.sl ks0.length (ks0.flatMap Expr.row),.sl ss0.length (ss0.flatMap Query.row)]=(l++[Expr.mk k0 o0 n0 v0 q0 m0 ks0 ss0]).flatMap Expr.row:=by
 rw[List.flatMap_append,List.flatMap_cons,List.flatMap_nil,List.append_nil,al]
theorem Ch (X:List D) (l:List Expr) (k0 o0:Int) (n0:Bool) (v0:Val) (q0 m0:ByteArray) (ks0:List Expr) (ss0:List Query):X++l.flatMap Expr.row++[int k0,int o0,bool n0,int v0.kind,int v0.num,str v0.text,str q0,str m0,.sl ks0.length (ks0.flatMap Expr.row),.sl ss0.length (ss0.flatMap Query.row)]=X++(l++[Expr.mk k0 o0 n0 v0 q0 m0 ks0 ss0]).flatMap Expr.row:=by
 rw[aL,EQ]
theorem Ho (k0 o0:Int) (n0:Bool) (v0:Val) (q0 m0:ByteArray) (ks0:List Expr) (ss0:List Query) (k1 o1:Int) (n1:Bool) (v1:Val) (q1 m1:ByteArray) (ks1:List Expr) (ss1:List Query):([int k0,int o0,bool n0,int v0.kind,int v0.num,str v0.text,str q0,str m0,.sl ks0.length (ks0.flatMap Expr.row),.sl ss0.length (ss0.flatMap Query.row),int k1,int o1,bool n1,int v1.kind,int v1.num,str v1.text,str q1,str m1,.sl ks1.length (ks1.flatMap Expr.row),.sl ss1.length (ss1.flatMap Query.row)]:List D)=([Expr.mk k0 o0 n0 v0 q0 m0 ks0 ss0,Expr.mk k1 o1 n1 v1 q1 m1 ks1 ss1]).flatMap Expr.row:=by
 rw[List.flatMap_cons,List.flatMap_cons,List.flatMap_nil,List.append_nil,al,al];rfl
set_option maxHeartbeats 1000000 in
theorem qX (L:List Tok) (hL:L.length<=1048576) (hT:∀t∈L,t.text.size<=1048576) {f:Nat->PM Expr} {q:PM Query} (ok1:OkM (L:=L) (f 1)) (okq:OkM (L:=L) q) (hf:pF L 172 [vi 1] (f 1)) (hq:Ef L 129 q) (e:Expr) (not:Bool):pF L 311 [.ag (ar e.row),vb not] (sf L f q e not):=by
 intro s x s' h ha
 unfold sf at h
 simp only at h
 have o1:Ok L s (must (bt L s 40) s):=Ok.must fun h=>aK h
 have ha1:=o1.2.1 ha
 obtain⟨k1,p1,n1,v1,q1,m1,ks1,ss1⟩:=e
 rw[al]
 refine ai ac false Tryz.func311 rfl ae ?_
 simp only[Tryz.f311,tt,seval]
 refine cS (cE L hL hT s 40 ha) ?_ ?_<;>simp only[tt,seval,PB]
 refine cS (bf L hL hT s (bt L s 40) (fun h=>aK h)) ?_ ?_<;>simp only[tt,seval,PB]
 generalize must (bt L s 40) s=u at *
 refine cS (eN L hL hT u 1 aa aa ha1) ?_ ?_<;>simp only[tt,seval,PB]
 cases c1:aw L u 1 with
 |true=>
  rw[if_pos c1] at h
  split at h
  ·cases h
  ·rename_i y t hy
   injection h with h;injection h with h1 h2;subst h1 h2
   have o2:=okq _ _ _ hy
   obtain⟨d,its,frs,whs,ods,lim⟩:=y
   have c:=hq _ _ _ hy ha1
   rw[aF] at c
   simp only[tt,seval]
   refine cS (c) ?_ ?_<;>simp only[tt,seval,PB]
   refine cS (cE L hL hT t 41 (o2.2.1 ha1)) ?_ ?_<;>simp only[tt,seval,PB]
   refine cS (bf L hL hT t (bt L t 41) (fun h=>aK h)) ?_ ?_<;>simp only[tt,seval,PB]
   refine⟨.ag (ar (bR 8 not [Expr.mk k1 p1 n1 v1 q1 m1 ks1 ss1] [.mk d its frs whs ods lim]).row),[PB L (must (bt L t 41) t)],⟨rfl,rfl⟩,am ?_⟩
   simp only[tt,seval,fW,PB,bR,zVal,z0,al,aF]
 |false=>
  rw[if_neg (by rw[c1];simp)] at h
  unfold kd at h
  split at h
  ·cases h
  rename_i l t hl
  split at hl
  ·cases hl
  rename_i y u1 hy
  injection h with h;injection h with h1 h2;subst h1 h2
  simp only[tt,seval]
  have o2:=ok1 _ _ _ hy
  have ha2:=o2.2.1 ha1
  obtain⟨k0,o0,n0,v0,q0,m0,ks0,ss0⟩:=y
  have c:=hf _ _ _ hy ha1
  rw[al] at c
  apply gr 8 0 2 6
  case h1=>
   refine dDrawn.intro [29] (.take 1 (.br 0 (.br 2 (.br 3 (.take 4 .done) .nobr) .nobr) (.br 2 (.take 0 (.br 3 (.take 4 .done) .nobr)) .nobr))) ae ?_
   simp only[tt,seval]
   all_goals repeat' first|refine dO ?_ ?_|refine bz ?_ ?_
   all_goals
    refine cS (c) ?_ ?_
    ·simp only[tt,seval,PB]
     decide
    simp only[tt,seval,PB]
   all_goals exact⟨rfl,rfl,rfl,rfl,rfl,rfl⟩
  case h2=>
   intro f' hj0 hj1 hj2 hj3
   simp only[tt,seval]
   rw[Ho k1 p1 n1 v1 q1 m1 ks1 ss1 k0 o0 n0 v0 q0 m0 ks0 ss0]
   refine dLoop.gh [.ren 30 39] ⟨ah,ah,?_⟩
   refine dLoop0.intro (fun f' Lo p=>∃(m:List Expr) (v:PS) (n:Nat),f' 8 = .c (.s 39 ((Expr.mk k1 p1 n1 v1 q1 m1 ks1 ss1)::m).length)/\f9 L (f 1) n m v=some (l,t)/\v.a<=L.length/\m.length<=v.a+1/\Lo=[(9000,.str (PB L v)),(39,.arr 52 ((Expr.mk k1 p1 n1 v1 q1 m1 ks1 ss1)::m).length (((Expr.mk k1 p1 n1 v1 q1 m1 ks1 ss1)::m).flatMap Expr.row) none),(6,.str [.v (.int .i64 0),.v (.int .i64 0),.v (.bool false),.v (.int .i64 0),.v (.int .i64 0),.v (.string ByteArray.empty),.v (.string ByteArray.empty),.v (.string ByteArray.empty),.v (.slice none 0 0),.v (.slice none 0 0)])]/\p=none) (fun _ Lo _=>L.length-Eg Lo) [(9000,.str (PB L u1)),(39,.arr 52 ([(Expr.mk k1 p1 n1 v1 q1 m1 ks1 ss1),(Expr.mk k0 o0 n0 v0 q0 m0 ks0 ss0)]).length (([(Expr.mk k1 p1 n1 v1 q1 m1 ks1 ss1),(Expr.mk k0 o0 n0 v0 q0 m0 ks0 ss0)]).flatMap Expr.row) none),(6,.str [.v (.int .i64 0),.v (.int .i64 0),.v (.bool false),.v (.int .i64 0),.v (.int .i64 0),.v (.string ByteArray.empty),.v (.string ByteArray.empty),.v (.string ByteArray.empty),.v (.slice none 0 0),.v (.slice none 0 0)])] none ⟨ak rfl (ak rfl (ak rfl (ao _))),aq _,?_⟩ ?_
   ·simp only[tt,seval,hj0]
    exact⟨[(Expr.mk k0 o0 n0 v0 q0 m0 ks0 ss0)],u1,L.length+1,rfl,hl,ha2,by simp,rfl⟩
   ·rintro g' Lo p ⟨m,v,n,h8,hm,hv,hml,rfl,rfl⟩
    simp only[tt,seval] at h8
    simp only[tt,seval,hj1]
    refine cS (cE L hL hT v 44 hv) ?_ ?_<;>simp only[tt,seval,PB,hj1]
    cases n with
    |zero=>cases hm
    |succ n=>
    rw[f9] at hm
    cases c44:bt L v 44 with
    |true=>
     rw[if_pos c44] at hm
     split at hm
     ·cases hm
     rename_i z w hz
     obtain⟨hb,hlt⟩:=aK c44
     have hav:=bo (L:=L) (aK c44)
     have o3:=ok1 _ _ _ hz
     have o3a:v.a+1<=w.a:=o3.1
     have hw:=o3.2.1 hav
     obtain⟨k2,o2',n2,v2,q2,m2,ks2,ss2⟩:=z
     have c2:=hf _ _ _ hz hav
     rw[al] at c2
     simp only[tt,seval]
     refine cS (bf L hL hT v true (fun _=>aK c44)) ?_ ?_<;>simp only[tt,seval,PB,xA,h8,hj1]
     refine cS (c2) ?_ ?_<;>simp only[tt,seval,PB]
     refine kU ?_
     rw[Ch,show m.length+1+1=(m++[Expr.mk k2 o2' n2 v2 q2 m2 ks2 ss2]).length+1 by simp]
     exact⟨_,none,ak rfl (ak rfl (ak rfl (ao _))),aq _,⟨m++[Expr.mk k2 o2' n2 v2 q2 m2 ks2 ss2],w,n,rfl,hm,hw,by simp;omega,rfl,rfl⟩,by show L.length-((w.a:Int)).toNat<L.length-((v.a:Int)).toNat;omega⟩
    |false=>
     rw[if_neg (by rw[c44];simp)] at hm
     injection hm with hm;injection hm with e1 e2;subst e1 e2
     simp only[tt,seval]
     refine cS (cE L hL hT v 41 hv) ?_ ?_<;>simp only[tt,seval,PB]
     refine cS (bf L hL hT v (bt L v 41) (fun h=>aK h)) ?_ ?_<;>simp only[tt,seval,PB,h8,hj2,hj3]
     refine⟨.ag (ar (bR 7 not ((Expr.mk k1 p1 n1 v1 q1 m1 ks1 ss1)::m) []).row),[PB L (must (bt L v 41) v)],⟨rfl,rfl⟩,am ?_⟩
     simp only[tt,seval,fW,PB,bR,zVal,z0,al]
theorem ER:∀w∈[1,2,4,5,6,7],fX w=(List.range' 1 14).filter (fun k:Nat=>decide (bl (k:Int)=(w:Int))):=by decide +kernel
theorem ES (op:Int) (n:Bool) (v:Val) (q m:ByteArray) (ks:List Expr) (ss:List Query):kP (Expr.mk 4 op n v q m ks ss)=bl op:=by simp [kP,Expr.kind,Expr.op,lv]
theorem AK (op:Nat) (h:op<=14):(cy (op:Int)).kind=if op=1∨op=2 then 1 else 5:=by
 unfold cy
 simp only
 by_cases h1:op=1∨op=2
 ·rw[if_pos h1,if_pos aa]
 ·rw[if_neg h1,if_neg aa]
theorem IP (L:List Tok) (s:PS) (op:Nat) (h:op<=14):(decide ((pX L s 0).kind=(cy (op:Int)).kind)&&decide ((pX L s 0).text=(cy (op:Int)).text))=j0 L s op:=by
 rw[AK op h,j0,Cg L s 0 _ _ (by split<;>decide)]
 rfl
theorem Ir {n:Nat} (h:n<=1048576):IntKind.i64.wrap ((n:Int)+1)=((n+1:Nat):Int):=ax (n:=(n:Int)+1) aa aa
theorem Hp {L:List Tok} {s:PS} {w op:Nat} (h:op<=14) (hb:¬bl (op:Int)=(w:Int)):fI L s ((List.range' op (15-op)).filter (fun k:Nat=>decide (bl (k:Int)=(w:Int))))=fI L s ((List.range' (op+1) (15-(op+1))).filter (fun k:Nat=>decide (bl (k:Int)=(w:Int)))):=by
 rw[show 15-op=15-(op+1)+1 by omega,List.range'_succ,List.filter_cons,if_neg (by simpa using hb)]
theorem ET {L:List Tok} {s:PS} {w op:Nat} (h:op<=14) (hb:bl (op:Int)=(w:Int)):fI L s ((List.range' op (15-op)).filter (fun k:Nat=>decide (bl (k:Int)=(w:Int))))=if j0 L s op=true then op else fI L s ((List.range' (op+1) (15-(op+1))).filter (fun k:Nat=>decide (bl (k:Int)=(w:Int)))):=by
 rw[show 15-op=15-(op+1)+1 by omega,List.range'_succ,List.filter_cons,if_pos (by simpa using hb),fI]
set_option maxHeartbeats 1000000 in
theorem uh (L:List Tok) (hL:L.length<=1048576) (hT:∀t∈L,t.text.size<=1048576) (s:PS) (w:Nat) (hw:w∈[1,2,4,5,6,7]) (ha:s.a<=L.length):Cl Tryz.prog 268 [.c (.p 9000 0),vi w] [PB L s] fun r os=>r=vi (cn L s w)/\os=[PB L s]:=by
 have ho:cn L s w=fI L s ((List.range' 1 (15-1)).filter (fun k:Nat=>decide (bl (k:Int)=(w:Int)))):=by rw[cn,ER w hw]
 refine ai ac false Tryz.func268 rfl ae ?_
 simp only[Tryz.f268,tt,seval]
 refine dLoop.intro (fun f' Lo p=>∃op:Nat,f' 5=vi op/\1<=op/\op<=15/\cn L s w=fI L s ((List.range' op (15-op)).filter (fun k:Nat=>decide (bl (k:Int)=(w:Int))))/\Lo=[(9000,.str (PB L s))]/\p=none) (fun f' _ _=>(15-eH (f' 5)).toNat) [(9000,.str (PB L s))] none ⟨ak rfl (ao _),aq _,?_⟩ ?_
 ·simp only[tt,seval]
  exact⟨1,rfl,aa,aa,ho⟩
 ·rintro g' Lo p ⟨op,h5,h1,h2,hop,rfl,rfl⟩
  simp only[tt,seval] at h5
  by_cases hle:op<=14
  ·have e0:((op:Int)<=14)=True:=eq_true aa
   simp only[tt,seval,h5,e0]
   refine cZ (mi (Expr.mk 4 op false zVal z0 z0 [] [])) ?_ ?_<;>simp only[tt,seval,ES,al,zVal,z0,fW,h5]
   by_cases hb:bl (op:Int)=(w:Int)
   ·have hop:=hop.trans (ET hle hb)
    simp only[tt,seval,hb]
    refine cZ (uV op) ?_ ?_<;>simp only[tt,seval,Tok.row]
    refine cS (gi L hL hT s 0 aa ha) ?_ ?_<;>simp only[tt,seval,PB,Tok.row]
    have hh:=IP L s op hle
    refine ab (fun hk=>?_) (fun hk=>?_)
    ·rw[hk,Bool.true_and] at hh
     simp only[tt,seval,hk,h5]
     by_cases hx:(pX L s 0).text=(cy (op:Int)).text
     ·rw[az hx] at hh
      simp only[tt,seval,hx]
      refine⟨vi op,[PB L s],⟨by rw[hop,if_pos hh.symm],rfl⟩,am ?_⟩
      simp only[tt,seval,PB]
     ·rw[au hx] at hh
      rw[if_neg (by rw[<-hh];simp)] at hop
      simp only[tt,seval,hx]
      refine⟨[(9000,.str (PB L s))],none,ak rfl (ao _),aq _,⟨op+1,by rw[Ir (n:=op) aa],aa,aa,hop,rfl,rfl⟩,?_⟩
      rw[Ir (n:=op) aa]
      show (15-((op+1:Nat):Int)).toNat<(15-(op:Int)).toNat
      omega
    ·rw[hk,Bool.false_and] at hh
     rw[if_neg (by rw[<-hh];simp)] at hop
     simp only[tt,seval,hk,h5]
     refine⟨[(9000,.str (PB L s))],none,ak rfl (ao _),aq _,⟨op+1,by rw[Ir (n:=op) aa],aa,aa,hop,rfl,rfl⟩,?_⟩
     rw[Ir (n:=op) aa]
     show (15-((op+1:Nat):Int)).toNat<(15-(op:Int)).toNat
     omega
   ·have hop:=hop.trans (Hp hle hb)
    simp only[tt,seval,hb]
    refine⟨[(9000,.str (PB L s))],none,ak rfl (ao _),aq _,⟨op+1,by rw[Ir (n:=op) aa],aa,aa,hop,rfl,rfl⟩,?_⟩
    rw[Ir (n:=op) aa]
    show (15-((op+1:Nat):Int)).toNat<(15-(op:Int)).toNat
    omega
  ·have e0:((op:Int)<=14)=False:=eq_false aa
   simp only[tt,seval,h5,e0]
   have e:cn L s w=0:=by rw[hop,show 15-op=0 by omega];rfl
   refine⟨vi 0,[PB L s],⟨by rw[e];rfl,rfl⟩,am ?_⟩
   simp only[tt,seval,PB]
set_option maxHeartbeats 2000000 in
theorem vQ (L:List Tok) (hL:L.length<=1048576) (hT:∀t∈L,t.text.size<=1048576) {f:Nat->PM Expr} {q:PM Query} (ok:∀lv,OkM (L:=L) (f lv)) (okq:OkM (L:=L) q) (hf1:pF L 172 [vi 1] (f 1)) (hf5:pF L 172 [vi 5] (f 5)) (hq:Ef L 129 q):pF L 266 [] (iP L f q):=by
 intro s x s' h ha
 unfold iP at h
 split at h
 ·cases h
 rename_i e s1 he
 have o1:=ok 5 _ _ _ he
 have ha1:=o1.2.1 ha
 obtain⟨k1,p1,n1,v1,q1,m1,ks1,ss1⟩:=e
 have c1:=hf5 _ _ _ he ha
 rw[al] at c1
 refine ai ac false Tryz.func266 rfl ae ?_
 simp only[Tryz.f266,tt,seval]
 refine cS (c1) ?_ ?_<;>simp only[tt,seval,PB]
 refine cS (uh L hL hT s1 4 ah ha1) ?_ ?_<;>simp only[tt,seval,PB]
 by_cases hop:cn L s1 4=0
 ·have e0:((0:Int)<((cn L s1 4:Nat):Int))=False:=eq_false aa
  rw[if_pos hop] at h
  unfold cmpT at h
  simp only at h
  simp only[tt,seval,e0]
  refine cS (bx L hL hT s1 16 aa aa ha1) ?_ ?_<;>simp only[tt,seval,PB]
  cases c16:aw L s1 16 with
  |true=>
   rw[if_pos c16] at h
   injection h with h;injection h with h1 h2;subst h1 h2
   simp only[tt,seval,jq]
   have ha2:=bo (L:=L) (aA c16)
   refine cS (bx L hL hT (adv s1) 15 aa aa ha2) ?_ ?_<;>simp only[tt,seval,PB]
   have o3:Ok L (adv s1) (tkIf (aw L (adv s1) 15) (adv s1)):=Ok.tkIf fun h=>aA h
   have ha3:=o3.2.1 ha2
   generalize tkIf (aw L (adv s1) 15) (adv s1)=u at *
   refine cS (eN L hL hT u 20 aa aa ha3) ?_ ?_<;>simp only[tt,seval,PB]
   refine cS (bf L hL hT u (aw L u 20) (fun h=>aA h)) ?_ ?_<;>simp only[tt,seval,PB]
   refine⟨.ag (ar (bR 5 (aw L (adv s1) 15) [(Expr.mk k1 p1 n1 v1 q1 m1 ks1 ss1)] []).row),[PB L (must (aw L u 20) u)],⟨rfl,rfl⟩,am ?_⟩
   simp only[tt,seval,fW,PB,bR,zVal,z0,al]
  |false=>
  rw[if_neg (by rw[c16];simp)] at h
  simp only[tt,seval,jb]
  refine cS (bx L hL hT s1 15 aa aa ha1) ?_ ?_<;>simp only[tt,seval,PB]
  have o2:Ok L s1 (tkIf (aw L s1 15) s1):=Ok.tkIf fun h=>aA h
  have ha2:=o2.2.1 ha1
  generalize tkIf (aw L s1 15) s1=u at *
  generalize aw L s1 15=n at *
  refine cS (bx L hL hT u 18 aa aa ha2) ?_ ?_<;>simp only[tt,seval,PB]
  cases c18:aw L u 18 with
  |true=>
   rw[if_pos c18] at h
   split at h
   ·cases h
   rename_i lo s2 hlo
   split at h
   ·cases h
   rename_i hi s3 hhi
   injection h with h;injection h with h1 h2;subst h1 h2
   simp only[tt,seval,jq]
   have ha3:=bo (L:=L) (aA c18)
   have ha4:=(ok 5 _ _ _ hlo).2.1 ha3
   obtain⟨k2,p2,n2,v2,q2,m2,ks2,ss2⟩:=lo
   have c2:=hf5 _ _ _ hlo ha3
   rw[al] at c2
   refine cS (c2) ?_ ?_<;>simp only[tt,seval,PB]
   refine cS (eN L hL hT s2 13 aa aa ha4) ?_ ?_<;>simp only[tt,seval,PB]
   refine cS (bf L hL hT s2 (aw L s2 13) (fun h=>aA h)) ?_ ?_<;>simp only[tt,seval,PB]
   have o5:Ok L s2 (must (aw L s2 13) s2):=Ok.must fun h=>aA h
   have ha5:=o5.2.1 ha4
   generalize must (aw L s2 13) s2=w at *
   obtain⟨k3,p3,n3,v3,q3,m3,ks3,ss3⟩:=hi
   have c3:=hf5 _ _ _ hhi ha5
   rw[al] at c3
   apply bH 2
   case h1=>
    refine dDrawn.intro [48] (.take 0 (.take 3 (.br 1 (.br 2 (.br 4 (.br 5 (.take 6 (.br 7 .done .nobr)) .nobr) .nobr) (.br 4 (.take 2 (.br 5 (.take 6 (.br 7 .done .nobr)) .nobr)) .nobr)) (.br 2 (.br 1 (.br 4 (.br 5 (.take 6 (.br 7 .done .nobr)) .nobr) .nobr) (.br 4 (.take 1 (.br 5 (.take 6 (.br 7 .done .nobr)) .nobr)) .nobr)) (.br 4 (.take 1 (.take 2 (.br 5 (.take 6 (.br 7 .done .nobr)) .nobr))) .nobr))))) ae ?_
    simp only[tt,seval]
    all_goals repeat' first|refine dO ?_ ?_|refine bz ?_ ?_
    all_goals
     refine cS (c3) ?_ ?_
     ·simp only[tt,seval,PB]
      decide
     simp only[tt,seval,PB]
    all_goals exact⟨rfl,rfl,rfl⟩
   case h2=>
    intro f' hj0
    simp only[tt,seval,hj0]
    refine⟨.ag (ar (bR 6 n [(Expr.mk k1 p1 n1 v1 q1 m1 ks1 ss1),(Expr.mk k2 p2 n2 v2 q2 m2 ks2 ss2),(Expr.mk k3 p3 n3 v3 q3 m3 ks3 ss3)] []).row),[PB L (s3)],⟨rfl,rfl⟩,am ?_⟩
    simp only[tt,seval,fW,PB,bR,zVal,z0,al]
  |false=>
  rw[if_neg (by rw[c18];simp)] at h
  simp only[tt,seval,jb]
  refine cS (bx L hL hT u 17 aa aa ha2) ?_ ?_<;>simp only[tt,seval,PB]
  cases c17:aw L u 17 with
  |true=>
   rw[if_pos c17] at h
   simp only[tt,seval,jq]
   have ha3:=bo (L:=L) (aA c17)
   have c2:=qX L hL hT (ok 1) okq hf1 hq (Expr.mk k1 p1 n1 v1 q1 m1 ks1 ss1) n _ _ _ h ha3
   obtain⟨k2,p2,n2,v2,q2,m2,ks2,ss2⟩:=x
   rw[al,al] at c2
   refine cS (c2) ?_ ?_<;>simp only[tt,seval,PB]
   refine⟨.ag (ar ((Expr.mk k2 p2 n2 v2 q2 m2 ks2 ss2)).row),[PB L (s')],⟨rfl,rfl⟩,am ?_⟩
   simp only[tt,seval,PB,al]
  |false=>
  rw[if_neg (by rw[c17];simp)] at h
  injection h with h;injection h with h1 h2;subst h1 h2
  simp only[tt,seval,jb]
  cases n with
  |true=>
   simp only[tt,seval]
   refine⟨.ag (ar ((Expr.mk k1 p1 n1 v1 q1 m1 ks1 ss1)).row),[PB L (⟨u.a,u.b||true⟩)],⟨rfl,rfl⟩,am ?_⟩
   simp only[tt,seval,PB,al,Bool.or_true]
  |false=>
   simp only[tt,seval]
   refine⟨.ag (ar ((Expr.mk k1 p1 n1 v1 q1 m1 ks1 ss1)).row),[PB L (⟨u.a,u.b⟩)],⟨rfl,rfl⟩,am ?_⟩
   simp only[tt,seval,PB,al]
 ·have e0:((0:Int)<((cn L s1 4:Nat):Int))=True:=eq_true aa
  rw[if_neg hop] at h
  split at h
  ·cases h
  rename_i y s2 hy
  injection h with h;injection h with h1 h2;subst h1 h2
  simp only[tt,seval,e0]
  refine cS (bf L hL hT s1 true (fun _=>du hop)) ?_ ?_<;>simp only[tt,seval,PB,xA]
  have ha2:=bo (L:=L) (du hop)
  obtain⟨k2,p2,n2,v2,q2,m2,ks2,ss2⟩:=y
  have c2:=hf5 _ _ _ hy ha2
  rw[al] at c2
  apply bH 2
  case h1=>
   refine dDrawn.intro [19] (.take 0 (.take 2 (.br 1 (.br 3 (.br 4 (.take 5 (.br 6 .done .nobr)) .nobr) .nobr) (.br 3 (.take 1 (.br 4 (.take 5 (.br 6 .done .nobr)) .nobr)) .nobr)))) ae ?_
   simp only[tt,seval]
   all_goals repeat' first|refine dO ?_ ?_|refine bz ?_ ?_
   all_goals
    refine cS (c2) ?_ ?_
    ·simp only[tt,seval,PB]
     decide
    simp only[tt,seval,PB]
   all_goals exact⟨rfl,rfl,rfl⟩
  case h2=>
   intro f' hj0
   simp only[tt,seval,hj0]
   refine⟨.ag (ar (ed (cn L s1 4) (Expr.mk k1 p1 n1 v1 q1 m1 ks1 ss1) (Expr.mk k2 p2 n2 v2 q2 m2 ks2 ss2)).row),[PB L (s2)],⟨rfl,rfl⟩,am ?_⟩
   simp only[tt,seval,fW,PB,ed,zVal,z0,al]
set_option maxHeartbeats 2000000 in
theorem Ci (L:List Tok) (hL:L.length<=1048576) (hT:∀t∈L,t.text.size<=1048576) {f:Nat->PM Expr} {q:PM Query} (ok:∀lv,OkM (L:=L) (f lv)) (okq:OkM (L:=L) q) (hf:∀lv:Nat,1<=lv->lv<=8->pF L 172 [vi lv] (f lv)) (hp:pF L 267 [] (f 9)) (hq:Ef L 129 q):pF L 172 [vi (3:Nat)] (stepE L f q 3):=by
 intro s x s' h ha
 unfold stepE at h
 simp only[if_true] at h
 refine ai ac false Tryz.func172 rfl ae ?_
 simp only[Tryz.f172,tt,seval]
 refine cS (bx L hL hT s 15 aa aa ha) ?_ ?_<;>simp only[tt,seval,PB]
 cases c15:aw L s 15 with
 |true=>
  rw[if_pos c15] at h
  split at h
  ·cases h
  rename_i e s1 he
  injection h with h;injection h with h1 h2;subst h1 h2
  simp only[tt,seval,jq]
  obtain⟨k1,p1,n1,v1,q1,m1,ks1,ss1⟩:=e
  have c1:=hf 3 aa aa _ _ _ he (bo (aA c15))
  rw[al] at c1
  refine cS (c1) ?_ ?_<;>simp only[tt,seval,PB]
  refine⟨.ag (ar (se 15 (Expr.mk k1 p1 n1 v1 q1 m1 ks1 ss1)).row),[PB L (s1)],⟨rfl,rfl⟩,am ?_⟩
  simp only[tt,seval,fW,PB,se,zVal,z0,al]
 |false=>
  rw[if_neg (by rw[c15];simp)] at h
  simp only[tt,seval,jb]
  obtain⟨k1,p1,n1,v1,q1,m1,ks1,ss1⟩:=x
  have c1:=hf 4 aa aa _ _ _ h ha
  rw[al] at c1
  refine cS (c1) ?_ ?_<;>simp only[tt,seval,PB]
  refine⟨.ag (ar ((Expr.mk k1 p1 n1 v1 q1 m1 ks1 ss1)).row),[PB L (s')],⟨rfl,rfl⟩,am ?_⟩
  simp only[tt,seval,PB,al]
theorem Cj (L:List Tok) (hL:L.length<=1048576) (hT:∀t∈L,t.text.size<=1048576) {f:Nat->PM Expr} {q:PM Query} (ok:∀lv,OkM (L:=L) (f lv)) (okq:OkM (L:=L) q) (hf:∀lv:Nat,1<=lv->lv<=8->pF L 172 [vi lv] (f lv)) (hp:pF L 267 [] (f 9)) (hq:Ef L 129 q):pF L 172 [vi (4:Nat)] (stepE L f q 4):=by
 intro s x s' h ha
 have h:iP L f q s=some (x,s'):=h
 refine ai ac false Tryz.func172 rfl ae ?_
 simp only[Tryz.f172,tt,seval]
 obtain⟨k1,p1,n1,v1,q1,m1,ks1,ss1⟩:=x
 have c1:=vQ L hL hT ok okq (hf 1 aa aa) (hf 5 aa aa) hq _ _ _ h ha
 rw[al] at c1
 refine cS (c1) ?_ ?_<;>simp only[tt,seval,PB]
 refine⟨.ag (ar ((Expr.mk k1 p1 n1 v1 q1 m1 ks1 ss1)).row),[PB L (s')],⟨rfl,rfl⟩,am ?_⟩
 simp only[tt,seval,PB,al]
set_option maxHeartbeats 2000000 in
theorem Ck (L:List Tok) (hL:L.length<=1048576) (hT:∀t∈L,t.text.size<=1048576) {f:Nat->PM Expr} {q:PM Query} (ok:∀lv,OkM (L:=L) (f lv)) (okq:OkM (L:=L) q) (hf:∀lv:Nat,1<=lv->lv<=8->pF L 172 [vi lv] (f lv)) (hp:pF L 267 [] (f 9)) (hq:Ef L 129 q):pF L 172 [vi (8:Nat)] (stepE L f q 8):=by
 intro s x s' h ha
 unfold stepE at h
 simp only[Nat.reduceEqDiff,if_false,if_true] at h
 refine ai ac false Tryz.func172 rfl ae ?_
 simp only[Tryz.f172,tt,seval]
 refine cS (cE L hL hT s 45 ha) ?_ ?_<;>simp only[tt,seval,PB]
 cases c45:bt L s 45 with
 |true=>
  rw[if_pos c45] at h
  split at h
  ·cases h
  rename_i e s1 he
  injection h with h;injection h with h1 h2;subst h1 h2
  simp only[tt,seval]
  refine cS (bf L hL hT s true (fun _=>aK c45)) ?_ ?_<;>simp only[tt,seval,PB,xA]
  obtain⟨k1,p1,n1,v1,q1,m1,ks1,ss1⟩:=e
  have c1:=hf 8 aa aa _ _ _ he (bo (aK c45))
  rw[al] at c1
  refine cS (c1) ?_ ?_<;>simp only[tt,seval,PB]
  refine⟨.ag (ar (se 16 (Expr.mk k1 p1 n1 v1 q1 m1 ks1 ss1)).row),[PB L (s1)],⟨rfl,rfl⟩,am ?_⟩
  simp only[tt,seval,fW,PB,se,zVal,z0,al]
 |false=>
  rw[if_neg (by rw[c45];simp)] at h
  simp only[tt,seval]
  obtain⟨k1,p1,n1,v1,q1,m1,ks1,ss1⟩:=x
  have c1:=hp _ _ _ h ha
  rw[al] at c1
  refine cS (c1) ?_ ?_<;>simp only[tt,seval,PB]
  refine⟨.ag (ar ((Expr.mk k1 p1 n1 v1 q1 m1 ks1 ss1)).row),[PB L (s')],⟨rfl,rfl⟩,am ?_⟩
  simp only[tt,seval,PB,al]
theorem vR {L:List Tok} {s:PS} (w:Nat) (h:s.b=true):cn L s w=0:=by
 cases Nat.eq_zero_or_pos (cn L s w) with
 |inl e=>exact e
 |inr e=>have:=(du (L:=L) (s:=s) (lv:=w) aa).1;rw[h] at this;cases this
set_option maxHeartbeats 4000000 in
theorem Cm (L:List Tok) (hL:L.length<=1048576) (hT:∀t∈L,t.text.size<=1048576) {f:Nat->PM Expr} {q:PM Query} (ok:∀lv,OkM (L:=L) (f lv)) (okq:OkM (L:=L) q) (hf:∀lv:Nat,1<=lv->lv<=8->pF L 172 [vi lv] (f lv)) (hp:pF L 267 [] (f 9)) (hq:Ef L 129 q) (w:Nat) (hw:w∈[1,2,5,6,7]):pF L 172 [vi w] (stepE L f q w):=by
 intro s x s' h ha
 have hw2:w∈[1,2,4,5,6,7]:=by simp only[List.mem_cons,List.not_mem_nil,or_false] at hw ⊢;omega
 have hw3:¬w=3 /\ ¬w=4 /\ ¬w=8 /\ ¬w=9/\1<=w/\w<=7:=by simp only[List.mem_cons,List.not_mem_nil,or_false] at hw;omega
 obtain⟨w3,w4,w8,w9,w1,w7⟩:=hw3
 have g3:decide ((w:Int)=3)=false:=au aa
 have g4:decide ((w:Int)=4)=false:=au aa
 have g8:decide ((w:Int)=8)=false:=au aa
 have p3:((w:Int)=3)=False:=eq_false aa
 have p4:((w:Int)=4)=False:=eq_false aa
 have p8:((w:Int)=8)=False:=eq_false aa
 have ew:IntKind.i64.wrap ((w:Int)+1)=((w+1:Nat):Int):=ax (n:=(w:Int)+1) aa aa
 unfold stepE at h
 rw[if_neg w3,if_neg w4,if_neg w8,if_neg w9] at h
 split at h
 ·cases h
 rename_i e s1 he
 have o1:=ok (w+1) _ _ _ he
 have ha1:=o1.2.1 ha
 obtain⟨k1,p1,n1,v1,q1,m1,ks1,ss1⟩:=e
 have c1:=hf (w+1) aa aa _ _ _ he ha
 rw[al] at c1
 refine ai ac false Tryz.func172 rfl ae ?_
 simp only[Tryz.f172,tt,seval]
 simp only[tt,seval,p3,p4,p8,ew]
 refine cS (c1) ?_ ?_<;>simp (maxSteps:=9999999) only[tt,seval,PB]
 refine dLoop.gh [] ?_
 refine dLoop0.introR (fun f' Lo p=>∃(e:Expr) (v:PS) (n:Nat),bP L (f (w+1)) w n e v=some (x,s')/\v.a<=L.length/\(Lo=[(9000,.str (PB L v)),(5,.str (ar (e).row)),(4,.str [.v (.int .i64 0),.v (.int .i64 0),.v (.bool false),.v (.int .i64 0),.v (.int .i64 0),.v (.string ByteArray.empty),.v (.string ByteArray.empty),.v (.string ByteArray.empty),.v (.slice none 0 0),.v (.slice none 0 0)])]∨(∃(op:Nat) (a b:Expr),e=ed op a b/\Lo=[(9000,.str (PB L v)),(5,.str [.v (.int .i64 4),.v (.int .i64 op),.v (.bool false),.v (.int .i64 0),.v (.int .i64 0),.v (.string ByteArray.empty),.v (.string ByteArray.empty),.v (.string ByteArray.empty),.s 10056 2,.v (.slice none 0 0)]),(10056,.arr 52 2 ([a,b].flatMap Expr.row) none),(4,.str [.v (.int .i64 0),.v (.int .i64 0),.v (.bool false),.v (.int .i64 0),.v (.int .i64 0),.v (.string ByteArray.empty),.v (.string ByteArray.empty),.v (.string ByteArray.empty),.v (.slice none 0 0),.v (.slice none 0 0)])]))/\p=none) (fun _ Lo _=>L.length-Eg Lo) [(9000,.str (PB L s1)),(5,.str (ar ((Expr.mk k1 p1 n1 v1 q1 m1 ks1 ss1)).row)),(4,.str [.v (.int .i64 0),.v (.int .i64 0),.v (.bool false),.v (.int .i64 0),.v (.int .i64 0),.v (.string ByteArray.empty),.v (.string ByteArray.empty),.v (.string ByteArray.empty),.v (.slice none 0 0),.v (.slice none 0 0)])] none ⟨by rw[al];exact ak rfl (ak rfl (ak rfl (ao _))),aq _,?_⟩ ?_
 ·simp only[tt,seval]
  exact⟨(Expr.mk k1 p1 n1 v1 q1 m1 ks1 ss1),s1,L.length+1,h,ha1,.inl rfl⟩
 ·rintro g' Lo p ⟨e,v,n,hm,hv,rfl|⟨op,a,b,rfl,rfl⟩,rfl⟩
  ·obtain⟨k1,p1,n1,v1,q1,m1,ks1,ss1⟩:=e
   rw[al]
   simp only[tt,seval]
   cases n with
   |zero=>cases hm
   |succ n=>
   rw[bP] at hm
   have fini:cn L v w=0->((Expr.mk k1 p1 n1 v1 q1 m1 ks1 ss1)=x/\v=s'):=fun e0=>by
    rw[if_pos e0] at hm
    injection hm with hm;injection hm with e1 e2;exact⟨e1,e2⟩
   cases hb:v.b with
   |true=>
    obtain⟨e1,e2⟩:=fini (vR w hb)
    subst e1 e2
    simp only[tt,seval,PB,hb]
    refine⟨.ag (ar ((Expr.mk k1 p1 n1 v1 q1 m1 ks1 ss1)).row),[PB L v],⟨rfl,by rw[PB,hb]⟩,am ?_⟩
    simp only[tt,seval,PB,al,hb]
   |false=>
   have hpb:PB L v=[.sl L.length (L.flatMap Tok.row) none,.v (.int .i64 v.a),.v (.bool false)]:=by rw[PB,hb]
   have cop:=uh L hL hT v w hw2 hv
   rw[hpb] at cop
   simp only[tt,seval,PB,hb]
   refine cS (cop) ?_ ?_<;>simp only[tt,seval]
   by_cases hop:cn L v w=0
   ·obtain⟨e1,e2⟩:=fini hop
    subst e1 e2
    have e0:decide (((cn L v w:Nat):Int)=0)=true:=az aa
    simp only[tt,seval,hop,hb]
    refine⟨.ag (ar ((Expr.mk k1 p1 n1 v1 q1 m1 ks1 ss1)).row),[PB L v],⟨rfl,by rw[PB,hb]⟩,am ?_⟩
    simp only[tt,seval,PB,al,hb]
   ·have e0:decide (((cn L v w:Nat):Int)=0)=false:=au aa
    have e1:(((cn L v w:Nat):Int)=0)=False:=eq_false aa
    rw[if_neg hop] at hm
    split at hm
    ·cases hm
    rename_i z u hz
    have hav:=bo (L:=L) (du hop)
    have o3:=ok (w+1) _ _ _ hz
    have o3a:v.a+1<=u.a:=o3.1
    have hu:=o3.2.1 hav
    have hlt:=(du hop).2
    obtain⟨k2,p2,n2,v2,q2,m2,ks2,ss2⟩:=z
    have c2:=hf (w+1) aa aa _ _ _ hz hav
    rw[al] at c2
    have cst:=bf L hL hT v true (fun _=>du hop)
    rw[hpb] at cst
    simp only[tt,seval,e1]
    refine cS (cst) ?_ ?_<;>simp only[tt,seval,PB,xA]
    apply bH 5
    case h1=>
     refine dDrawn.intro [55] (.take 0 (.take 2 (.take 3 (.take 4 (.br 1 (.br 5 (.br 6 (.take 7 (.br 8 .done .nobr)) .nobr) .nobr) (.br 5 (.take 1 (.br 6 (.take 7 (.br 8 .done .nobr)) .nobr)) .nobr)))))) ae ?_
     simp only[tt,seval]
     all_goals repeat' first|refine dO ?_ ?_|refine bz ?_ ?_
     all_goals
      refine cS (c2) ?_ ?_
      ·simp (maxSteps:=9999999) only[tt,seval,PB,ew]
       decide
      simp (maxSteps:=9999999) only[tt,seval,PB,ew]
     all_goals exact⟨rfl,rfl,rfl⟩
    case h2=>
     intro f' hj0
     refine⟨[.ren 56 10056],ah,ah,?_⟩
     simp only[tt,seval]
     refine⟨[(9000,.str (PB L u)),(5,.str [.v (.int .i64 4),.v (.int .i64 (cn L v w)),.v (.bool false),.v (.int .i64 0),.v (.int .i64 0),.v (.string ByteArray.empty),.v (.string ByteArray.empty),.v (.string ByteArray.empty),.s 10056 2,.v (.slice none 0 0)]),(10056,.arr 52 2 ([(Expr.mk k1 p1 n1 v1 q1 m1 ks1 ss1),(Expr.mk k2 p2 n2 v2 q2 m2 ks2 ss2)].flatMap Expr.row) none),(4,.str [.v (.int .i64 0),.v (.int .i64 0),.v (.bool false),.v (.int .i64 0),.v (.int .i64 0),.v (.string ByteArray.empty),.v (.string ByteArray.empty),.v (.string ByteArray.empty),.v (.slice none 0 0),.v (.slice none 0 0)])],none,by simp only[fW,PB,al,List.flatMap_nil,List.flatMap_cons,List.append_nil];exact ak rfl (ak rfl (ak rfl (ak rfl (ao _)))),aq _,⟨ed (cn L v w) (Expr.mk k1 p1 n1 v1 q1 m1 ks1 ss1) (Expr.mk k2 p2 n2 v2 q2 m2 ks2 ss2),u,n,hm,hu,.inr ⟨_,(Expr.mk k1 p1 n1 v1 q1 m1 ks1 ss1),(Expr.mk k2 p2 n2 v2 q2 m2 ks2 ss2),rfl,rfl⟩,rfl⟩,?_⟩
     show L.length-((u.a:Int)).toNat<L.length-((v.a:Int)).toNat
     omega
  ·skip
   simp only[tt,seval]
   cases n with
   |zero=>cases hm
   |succ n=>
   rw[bP] at hm
   have fini:cn L v w=0->((ed op a b)=x/\v=s'):=fun e0=>by
    rw[if_pos e0] at hm
    injection hm with hm;injection hm with e1 e2;exact⟨e1,e2⟩
   cases hb:v.b with
   |true=>
    obtain⟨e1,e2⟩:=fini (vR w hb)
    subst e1 e2
    simp only[tt,seval,PB,hb]
    refine⟨.ag (ar ((ed op a b)).row),[PB L v],⟨rfl,by rw[PB,hb]⟩,am ?_⟩
    simp only[tt,seval,fW,PB,ed,zVal,z0,al,hb]
   |false=>
   have hpb:PB L v=[.sl L.length (L.flatMap Tok.row) none,.v (.int .i64 v.a),.v (.bool false)]:=by rw[PB,hb]
   have cop:=uh L hL hT v w hw2 hv
   rw[hpb] at cop
   simp only[tt,seval,PB,hb]
   refine cS (cop) ?_ ?_<;>simp only[tt,seval]
   by_cases hop:cn L v w=0
   ·obtain⟨e1,e2⟩:=fini hop
    subst e1 e2
    have e0:decide (((cn L v w:Nat):Int)=0)=true:=az aa
    simp only[tt,seval,hop,hb]
    refine⟨.ag (ar ((ed op a b)).row),[PB L v],⟨rfl,by rw[PB,hb]⟩,am ?_⟩
    simp only[tt,seval,fW,PB,ed,zVal,z0,al,hb]
   ·have e0:decide (((cn L v w:Nat):Int)=0)=false:=au aa
    have e1:(((cn L v w:Nat):Int)=0)=False:=eq_false aa
    rw[if_neg hop] at hm
    split at hm
    ·cases hm
    rename_i z u hz
    have hav:=bo (L:=L) (du hop)
    have o3:=ok (w+1) _ _ _ hz
    have o3a:v.a+1<=u.a:=o3.1
    have hu:=o3.2.1 hav
    have hlt:=(du hop).2
    obtain⟨k2,p2,n2,v2,q2,m2,ks2,ss2⟩:=z
    have c2:=hf (w+1) aa aa _ _ _ hz hav
    rw[al] at c2
    have cst:=bf L hL hT v true (fun _=>du hop)
    rw[hpb] at cst
    simp only[tt,seval,e1]
    refine cS (cst) ?_ ?_<;>simp only[tt,seval,PB,xA]
    apply bH 5
    case h1=>
     refine dDrawn.intro [55] (.take 0 (.take 2 (.take 3 (.take 4 (.br 1 (.br 5 (.br 6 (.take 7 (.br 8 .done .nobr)) .nobr) .nobr) (.br 5 (.take 1 (.br 6 (.take 7 (.br 8 .done .nobr)) .nobr)) .nobr)))))) ae ?_
     simp only[tt,seval]
     all_goals repeat' first|refine dO ?_ ?_|refine bz ?_ ?_
     all_goals
      refine cS (c2) ?_ ?_
      ·simp (maxSteps:=9999999) only[tt,seval,PB,ew]
       decide
      simp (maxSteps:=9999999) only[tt,seval,PB,ew]
     all_goals exact⟨rfl,rfl,rfl⟩
    case h2=>
     intro f' hj0
     refine⟨[.ren 56 10056],ah,ah,?_⟩
     simp only[tt,seval]
     refine⟨[(9000,.str (PB L u)),(5,.str [.v (.int .i64 4),.v (.int .i64 (cn L v w)),.v (.bool false),.v (.int .i64 0),.v (.int .i64 0),.v (.string ByteArray.empty),.v (.string ByteArray.empty),.v (.string ByteArray.empty),.s 10056 2,.v (.slice none 0 0)]),(10056,.arr 52 2 ([(ed op a b),(Expr.mk k2 p2 n2 v2 q2 m2 ks2 ss2)].flatMap Expr.row) none),(4,.str [.v (.int .i64 0),.v (.int .i64 0),.v (.bool false),.v (.int .i64 0),.v (.int .i64 0),.v (.string ByteArray.empty),.v (.string ByteArray.empty),.v (.string ByteArray.empty),.v (.slice none 0 0),.v (.slice none 0 0)])],none,by simp only[fW,PB,ed,zVal,z0,al,List.flatMap_nil,List.flatMap_cons,List.append_nil,List.length_nil,List.length_cons];exact ak rfl (ak rfl (ak rfl (ak rfl (ao _)))),aq _,⟨ed (cn L v w) (ed op a b) (Expr.mk k2 p2 n2 v2 q2 m2 ks2 ss2),u,n,hm,hu,.inr ⟨_,(ed op a b),(Expr.mk k2 p2 n2 v2 q2 m2 ks2 ss2),rfl,rfl⟩,rfl⟩,?_⟩
     show L.length-((u.a:Int)).toNat<L.length-((v.a:Int)).toNat
     omega
end Go.Proofs.YtbodcedhmccenaaGreatDoor
