/-
  The program's parser, first half.
  Conditions: none.
-/
import Derived.Test.YtoegnikpokgbfaaGreatDoorMIC1
set_option linter.unusedVariables false
set_option linter.unusedSimpArgs false
set_option linter.unusedSectionVars false
set_option linter.unnecessarySimpa false
set_option maxRecDepth 8000
namespace Go.Proofs.YtoegnikpokgbfaaGreatDoor
open Go Go.Dv
open Go.Vc (D cF cG cv aX)
theorem pJ (L:List Tok) (hL:L.length<=1048576) (hT:∀t∈L,t.text.size<=1048576) (s:PS) (k:Nat) (kind:Nat) (x:ByteArray) (hk:k<=100) (ha:s.a<=L.length):Cl Tryz.prog 222 [.c (.p 9000 0),vi k,vi kind,vs x] [PB L s] fun r os=>r=vb (jL L s k kind x)/\os=[PB L s]:=by
 obtain⟨a,b⟩:=s
 have ha:a<=L.length:=ha
 have hw:IntKind.i64.wrap ((a:Int)+k)=((a+k:Nat):Int):=aI (n:=(a:Int)+k) aa aa
 cases b with
 |true=>
  have e:jL L ⟨a,true⟩ k kind x=false:=rfl
  rw[e]
  refine am ah false Tryz.func222 rfl ac ?_
  simp only[Tryz.f222,tt,seval]
  simp only[tt,seval,PB,hw]
  refine⟨_,[PB L ⟨a,true⟩],⟨rfl,rfl⟩,au ?_⟩
  simp only[tt,seval,PB]
 |false=>
  refine am ah false Tryz.func222 rfl ac ?_
  simp only[Tryz.f222,tt,seval]
  simp only[tt,seval,PB,hw]
  refine fun _=>?_
  by_cases hlt:a+k<L.length
  ·have h1:decide (((a+k:Nat):Int)<(L.length:Int))=true:=aF aa
   have hx:L[a+k]?=some L[a+k]:=aC hlt
   have e:jL L ⟨a,false⟩ k kind x=(decide (L[a+k].kind=kind)&&decide (L[a+k].text=x)):=by
    unfold jL j9
    simp only[Bool.false_eq_true,if_false,hx]
   have i0:((0:Int)<=((a+k:Nat):Int))=True:=eq_true aa
   have iL:(((a+k:Nat):Int)<(L.length:Int))=True:=eq_true aa
   have iT:(a+k<L.length)=True:=eq_true hlt
   rw[e]
   generalize L[a+k]=tk at *
   generalize a+k=j at *
   simp only[tt,seval,iG hx ik,i0,iL,Tok.row]
   cases hk1:decide (tk.kind=(kind:Int)) with
   |true=>
    simp only[tt,seval,iG hx ik,i0,iL,Tok.row]
    trace_state
    refine⟨_,[PB L ⟨a,false⟩],⟨rfl,rfl⟩,au ?_⟩
    simp only[tt,seval,PB]
   |false=>
    simp only[tt,seval]
    trace_state
    refine⟨_,[PB L ⟨a,false⟩],⟨rfl,rfl⟩,au ?_⟩
    simp only[tt,seval,PB]
  ·have h1:decide (((a+k:Nat):Int)<(L.length:Int))=false:=aG aa
   have e:jL L ⟨a,false⟩ k kind x=false:=by
    unfold jL j9
    simp only[Bool.false_eq_true,if_false,List.getElem?_eq_none_iff.2 (show L.length<=a+k by omega)]
   rw[e]
   simp only[tt,seval,h1]
   refine⟨_,[PB L ⟨a,false⟩],⟨rfl,rfl⟩,au ?_⟩
   simp only[tt,seval,PB]
theorem iW (L:List Tok) (hL:L.length<=1048576) (hT:∀t∈L,t.text.size<=1048576) (s:PS) (k:Nat) (ha:s.a<=L.length):Cl Tryz.prog 290 [.c (.p 9000 0),vi k] [PB L s] fun r os=>r=vb (kH L s k)/\os=[PB L s]:=by
 obtain⟨a,b⟩:=s
 have ha:a<=L.length:=ha
 cases b with
 |true=>
  have e:kH L ⟨a,true⟩ k=false:=rfl
  rw[e]
  refine am ah false Tryz.func290 rfl ac ?_
  simp only[Tryz.f290,tt,seval]
  refine dDrawn.intro [] (kV [0,2,4,6,8,10,12,14,16,18,20,22,24,26,28,30,32,34,36,38,40,42,44,46,48,50,52,54,56,58,60,62,64,66,68,70,72,74,76,78,80,82,84,87,88,90]) ac ?_
  simp only[tt,seval]
  simp only[tt,seval,PB]
  refine⟨_,[PB L ⟨a,true⟩],⟨rfl,rfl⟩,au ?_⟩
  simp only[tt,seval,PB]
 |false=>
  refine am ah false Tryz.func290 rfl ac ?_
  simp only[Tryz.f290,tt,seval]
  refine dDrawn.intro [] (kV [0,2,4,6,8,10,12,14,16,18,20,22,24,26,28,30,32,34,36,38,40,42,44,46,48,50,52,54,56,58,60,62,64,66,68,70,72,74,76,78,80,82,84,87,88,90]) ac ?_
  simp only[tt,seval]
  simp only[tt,seval,PB]
  refine fun _=>?_
  by_cases hlt:a<L.length
  ·have h1:decide ((a:Int)<(L.length:Int))=true:=aF aa
   have hx:L[a]?=some L[a]:=aC hlt
   have ht:=hT L[a] (aH hlt)
   have e:kH L ⟨a,false⟩ k=(decide (L[a].kind=k)&&eN L[a]):=by
    unfold kH j9
    simp only[Bool.false_eq_true,if_false,Nat.add_zero,hx]
   have i0:((0:Int)<=(a:Int))=True:=eq_true aa
   have iL:((a:Int)<(L.length:Int))=True:=eq_true aa
   have iT:(a<L.length)=True:=eq_true hlt
   rw[e]
   generalize L[a]=tk at *
   simp only[tt,seval,iG hx ik,i0,iL,Tok.row]
   cases hk1:decide (tk.kind=(k:Int)) with
   |true=>
    simp only[tt,seval,iG hx ik,i0,iL,Tok.row]
    refine cZ (uV tk ht) ?_ ?_<;>simp only[tt,seval,Tok.row]
    refine⟨_,[PB L ⟨a,false⟩],⟨rfl,rfl⟩,au ?_⟩
    simp only[tt,seval,PB]
   |false=>
    simp only[tt,seval]
    refine⟨_,[PB L ⟨a,false⟩],⟨rfl,rfl⟩,au ?_⟩
    simp only[tt,seval,PB]
  ·have h1:decide ((a:Int)<(L.length:Int))=false:=aG aa
   have e:kH L ⟨a,false⟩ k=false:=by
    unfold kH j9
    simp only[Bool.false_eq_true,if_false,Nat.add_zero,List.getElem?_eq_none_iff.2 (show L.length<=a by omega)]
   rw[e]
   simp only[tt,seval,h1]
   refine⟨_,[PB L ⟨a,false⟩],⟨rfl,rfl⟩,au ?_⟩
   simp only[tt,seval,PB]
theorem u5 (L:List Tok) (hL:L.length<=1048576) (hT:∀t∈L,t.text.size<=1048576) (s:PS) (k:Nat) (w:ByteArray) (hw:w=kw k) (ha:s.a<=L.length):Cl Tryz.prog 239 [.c (.p 9000 0),vs w] [PB L s] fun r os=>r=vb (az L s k)/\os=[PB L s]:=by
 subst hw
 rw[show az L s k=jL L s 0 1 (kw k) from rfl]
 refine am ah false Tryz.func239 rfl ac ?_
 simp only[Tryz.f239,tt,seval]
 refine cS (pJ L hL hT s 0 1 (kw k) aa ha) ?_ ?_<;>simp only[tt,seval,PB]
 refine⟨_,[PB L s],⟨rfl,rfl⟩,au ?_⟩
 simp only[tt,seval,PB]
theorem yy (L:List Tok) (hL:L.length<=1048576) (hT:∀t∈L,t.text.size<=1048576) (s:PS) (c:UInt8) (ha:s.a<=L.length):Cl Tryz.prog 289 [.c (.p 9000 0),vs ⟨#[c]⟩] [PB L s] fun r os=>r=vb (cu L s c)/\os=[PB L s]:=by
 rw[show cu L s c=jL L s 0 5 ⟨#[c]⟩ from rfl]
 refine am ah false Tryz.func289 rfl ac ?_
 simp only[Tryz.f289,tt,seval]
 refine cS (pJ L hL hT s 0 5 ⟨#[c]⟩ aa ha) ?_ ?_<;>simp only[tt,seval,PB]
 refine⟨_,[PB L s],⟨rfl,rfl⟩,au ?_⟩
 simp only[tt,seval,PB]
theorem bt (L:List Tok) (hL:L.length<=1048576) (hT:∀t∈L,t.text.size<=1048576) (s:PS) (k:Nat) (w:ByteArray) (hw:w=kw k) (ha:s.a<=L.length):Cl Tryz.prog 223 [.c (.p 9000 0),vs w] [PB L s] fun r os=>r=vb (az L s k)/\os=[PB L (tkIf (az L s k) s)]:=by
 refine am ah false Tryz.func223 rfl ac ?_
 simp only[Tryz.f223,tt,seval]
 refine cS (u5 L hL hT s k w hw ha) ?_ ?_<;>simp only[tt,seval,PB]
 cases c:az L s k with
 |true=>
  have hlt:=(aB c).2
  simp only[tt,seval]
  rw[aI (n:=(s.a:Int)+1) aa aa]
  refine⟨_,[PB L (adv s)],⟨rfl,rfl⟩,au ?_⟩
  simp only[tt,seval,PB,adv]
  omega
 |false=>
  simp only[tt,seval]
  refine⟨_,[PB L s],⟨rfl,rfl⟩,au ?_⟩
  simp only[tt,seval,PB]
theorem cR (L:List Tok) (hL:L.length<=1048576) (hT:∀t∈L,t.text.size<=1048576) (s:PS) (c:UInt8) (ha:s.a<=L.length):Cl Tryz.prog 273 [.c (.p 9000 0),vs ⟨#[c]⟩] [PB L s] fun r os=>r=vb (cu L s c)/\os=[PB L (tkIf (cu L s c) s)]:=by
 refine am ah false Tryz.func273 rfl ac ?_
 simp only[Tryz.f273,tt,seval]
 refine cS (yy L hL hT s c ha) ?_ ?_<;>simp only[tt,seval,PB]
 cases c:cu L s c with
 |true=>
  have hlt:=(bh c).2
  simp only[tt,seval]
  rw[aI (n:=(s.a:Int)+1) aa aa]
  refine⟨_,[PB L (adv s)],⟨rfl,rfl⟩,au ?_⟩
  simp only[tt,seval,PB,adv]
  omega
 |false=>
  simp only[tt,seval]
  refine⟨_,[PB L s],⟨rfl,rfl⟩,au ?_⟩
  simp only[tt,seval,PB]
theorem fh (L:List Tok) (hL:L.length<=1048576) (hT:∀t∈L,t.text.size<=1048576) (s:PS) (k:Nat) (w:ByteArray) (hw:w=kw k) (ha:s.a<=L.length):Cl Tryz.prog 241 [.c (.p 9000 0),vs w] [PB L s] fun r os=>r = .tu []/\os=[PB L (must (az L s k) s)]:=by
 refine am ah false Tryz.func241 rfl ac ?_
 simp only[Tryz.f241,tt,seval]
 refine cS (bt L hL hT s k w hw ha) ?_ ?_<;>simp only[tt,seval,PB]
 cases c:az L s k with
 |true=>
  simp only[tt,seval,mM,IC]
  refine⟨_,[PB L (adv s)],⟨rfl,rfl⟩,au ?_⟩
  simp only[tt,seval,PB]
 |false=>
  simp only[tt,seval,mN,ID]
  refine⟨_,[PB L (fl s)],⟨rfl,rfl⟩,au ?_⟩
  simp only[tt,seval,PB,fl]
theorem eD (L:List Tok) (hL:L.length<=1048576) (hT:∀t∈L,t.text.size<=1048576) (s:PS) (c:UInt8) (ha:s.a<=L.length):Cl Tryz.prog 255 [.c (.p 9000 0),vs ⟨#[c]⟩] [PB L s] fun r os=>r = .tu []/\os=[PB L (must (cu L s c) s)]:=by
 refine am ah false Tryz.func255 rfl ac ?_
 simp only[Tryz.f255,tt,seval]
 refine cS (cR L hL hT s c ha) ?_ ?_<;>simp only[tt,seval,PB]
 cases c:cu L s c with
 |true=>
  simp only[tt,seval,mM,IC]
  refine⟨_,[PB L (adv s)],⟨rfl,rfl⟩,au ?_⟩
  simp only[tt,seval,PB]
 |false=>
  simp only[tt,seval,mN,ID]
  refine⟨_,[PB L (fl s)],⟨rfl,rfl⟩,au ?_⟩
  simp only[tt,seval,PB,fl]
theorem dB (L:List Tok) (hL:L.length<=1048576) (hT:∀t∈L,t.text.size<=1048576) (s:PS) (k:Nat) (ha:s.a<=L.length):Cl Tryz.prog 291 [.c (.p 9000 0),vi k] [PB L s] fun r os=>r=vs (mText L k s).1/\os=[PB L (mText L k s).2]:=by
 refine am ah false Tryz.func291 rfl ac ?_
 simp only[Tryz.f291,tt,seval]
 refine cS (iW L hL hT s k ha) ?_ ?_<;>simp only[tt,seval,PB]
 cases c:kH L s k with
 |true=>
  obtain⟨hb,hlt⟩:=jN c
  rw[pe c]
  simp only[tt,seval]
  rw[aI (n:=(s.a:Int)+1) aa aa]
  refine dDrawn.intro [] (kV [0,2,4,6,8,10,12,14,16,18,20,22,24]) ac ?_
  simp only[tt,seval]
  have e1:IntKind.i64.wrap ((s.a:Int)+1-1)=s.a:=by rw[aI (n:=(s.a:Int)+1-1) aa aa];omega
  have hx:L[s.a]?=some L[s.a]:=aC hlt
  have e2:bM L s=L[s.a].text:=by
   unfold bM j9
   rw[hb]
   simp only[Bool.false_eq_true,if_false,Nat.add_zero,hx]
  have i0:((0:Int)<=(s.a:Int))=True:=eq_true aa
  have iL:((s.a:Int)<(L.length:Int))=True:=eq_true aa
  have iT:(s.a<L.length)=True:=eq_true hlt
  rw[e2]
  generalize L[s.a]=tk at *
  simp only[tt,seval,e1,iG hx ik,i0,iL,Tok.row]
  refine⟨_,[PB L (adv s)],⟨rfl,rfl⟩,au ?_⟩
  simp only[tt,seval,PB,adv]
  omega
 |false=>
  have e:mText L k s=(⟨#[]⟩,fl s):=by rw[mText,if_neg (by rw[c];simp)]
  rw[e]
  simp only[tt,seval]
  refine⟨vs ⟨#[]⟩,[PB L (fl s)],⟨rfl,rfl⟩,au ?_⟩
  simp only[tt,seval,PB,fl]
theorem iq (L:List Tok) (hL:L.length<=1048576) (hT:∀t∈L,t.text.size<=1048576) (s:PS) (ha:s.a<=L.length):Cl Tryz.prog 278 [.c (.p 9000 0)] [PB L s] fun r os=>r=vi (mNum L s).1/\os=[PB L (mNum L s).2]:=by
 have hsz:(mText L 3 s).1.size<=1048576:=by
  unfold mText
  split
  ·exact p8 hL hT s
  ·exact Nat.zero_le _
 have e:mNum L s=(j8 (mText L 3 s).1,(mText L 3 s).2):=rfl
 rw[e]
 refine am ah false Tryz.func278 rfl ac ?_
 simp only[Tryz.f278,tt,seval]
 refine cS (dB L hL hT s 3 ha) ?_ ?_<;>simp only[tt,seval,PB]
 generalize (mText L 3 s).1=x at *
 refine cZ (qJ x hsz) ?_ ?_<;>simp only[tt,seval,uU]
 refine⟨_,[PB L (mText L 3 s).2],⟨rfl,rfl⟩,au ?_⟩
 simp only[tt,seval,PB]
theorem ER (L:List Tok) (hL:L.length<=1048576) (hT:∀t∈L,t.text.size<=1048576) (s:PS) (ha:s.a<=L.length):Cl Tryz.prog 58 [.c (.p 9000 0)] [PB L s] fun r os=>r=vi (nR L s)/\os=[PB L s]:=by
 refine am ah false Tryz.func58 rfl ac ?_
 simp only[Tryz.f58,tt,seval]
 refine dDrawn.intro [] (kV [0,2,4,6,8,10,12,14,16,18,20,22,24,26,28,30]) ac ?_
 simp only[tt,seval]
 simp only[tt,seval,PB]
 cases hb:s.b with
 |true=>
  have e:nR L s=s.a:=if_neg (by rw[hb];simp)
  rw[e]
  simp only[tt,seval]
  exact⟨_,_,⟨rfl,rfl⟩,au (by simp only[tt,seval])⟩
 |false=>
  simp only[tt,seval]
  refine fun _=>ab (fun he=>?_) (fun he=>?_)
  ·have e:nR L s=s.a:=if_neg aa
   rw[e]
   exact⟨_,_,⟨rfl,rfl⟩,au (by simp only[tt,seval])⟩
  ·have e:nR L s = -1:=if_pos ⟨hb,aa⟩
   rw[e]
   exact⟨_,_,⟨rfl,rfl⟩,au (by simp only[tt,seval])⟩
theorem xu (L:List Tok) (hL:L.length<=1048576) (hT:∀t∈L,t.text.size<=1048576) (s:PS) (ha:s.a<=L.length):Cl Tryz.prog 292 [.c (.p 9000 0)] [PB L s] fun r os=>r=vs (asM L s).1/\os=[PB L (asM L s).2]:=by
 refine am ah false Tryz.func292 rfl ac ?_
 simp only[Tryz.f292,tt,seval]
 refine cS (bt L hL hT s 12 ⟨#[65,83]⟩ ac ha) ?_ ?_<;>simp only[tt,seval,PB]
 cases c:az L s 12 with
 |true=>
  have hm:asM L s=mText L 2 (adv s):=by rw[asM,if_pos c]
  rw[hm]
  simp only[tt,seval,mM]
  refine cS (dB L hL hT (adv s) 2 (cV (aB c))) ?_ ?_<;>simp only[tt,seval,PB]
  refine⟨_,[PB L (mText L 2 (adv s)).2],⟨rfl,rfl⟩,au ?_⟩
  simp only[tt,seval,PB]
 |false=>
  have hm:asM L s=(z0,s):=by rw[asM,if_neg (by rw[c];simp)]
  rw[hm]
  simp only[tt,seval,mN]
  refine⟨vs z0,[PB L s],⟨rfl,rfl⟩,au ?_⟩
  simp only[tt,seval,PB,z0]
def kg (n:Nat):List D:=[.lit (.int .i64 n)]
theorem AE (n:Nat):(kg n).length=1:=rfl
theorem r9 (L:List Tok) (hL:L.length<=1048576) (hT:∀t∈L,t.text.size<=1048576) (s:PS) (ops:List Nat) (hn:ops.length<=100) (ho:∀op∈ops,1<=op/\op<=100) (ha:s.a<=L.length):Cl Tryz.prog 188 [.c (.p 9000 0),.c (.sl ops.length (ops.flatMap kg) none)] [PB L s] fun r os=>r=vi (gR L s ops)/\os=[PB L (tkIf (decide (gR L s ops≠0)) s)]:=by
 refine am ah false Tryz.func188 rfl ac ?_
 simp only[Tryz.f188,tt,seval]
 refine fun _=>?_
 refine dLoop.intro (fun f Lo p=>∃i:Nat,f 10=vi i/\i<=ops.length/\gR L s (ops.drop i)=gR L s ops/\Lo=[(9000,.str (PB L s))]/\p=none) (fun f _ _=>(ops.length-eO (f 10)).toNat) [(9000,.str (PB L s))] none ⟨ak rfl (aq _),av _,?_⟩ ?_
 ·simp only[tt,seval]
  exact⟨0,rfl,Nat.zero_le _,rfl⟩
 ·rintro g Lo p ⟨i,h10,hi,hin,rfl,rfl⟩
  simp only[tt,seval] at h10
  simp only[tt,seval,h10,Int.ofNat_lt]
  refine ab (fun hlt=>?_) (fun hge=>?_)
  ·have hlt:i<ops.length:=by omega
   have hx:ops[i]?=some ops[i]:=aC hlt
   obtain⟨ho1,ho2⟩:=ho ops[i] (aH hlt)
   rw[List.drop_eq_getElem_cons hlt,gR] at hin
   refine⟨aa,aa,_,aD AE hx,by rw[kg];simp,?_⟩
   generalize ops[i]=op at *
   simp only[tt,seval,kg]
   by_cases o1:op=1
   ·have d1:decide ((op:Int)=1)=true:=aF aa
    simp only[tt,seval,d1]
    have hk:jM L s op=jL L s 0 (1:Nat) (iC op):=by
     unfold jM
     first|rw[if_pos aa]|rw[if_neg aa]
     rfl
    rw[hk] at hin
    refine cZ (eR op) ?_ ?_<;>simp only[tt,seval]
    refine cS (pJ L hL hT s 0 1 (iC op) aa ha) ?_ ?_<;>simp only[tt,seval,PB,h10]
    cases c:jL L s 0 (1:Nat) (iC op) with
    |true=>
     rw[if_pos c] at hin
     have hlt2:=(lz c).2
     rw[<-hin]
     have h0:decide (op≠0)=true:=aF aa
     simp only[tt,seval]
     rw[aI (n:=(s.a:Int)+1) aa aa]
     refine⟨vi op,[PB L (adv s)],⟨rfl,by rw[h0];rfl⟩,au ?_⟩
     simp only[tt,seval,PB,adv]
     omega
    |false=>
     rw[if_neg (by rw[c];simp)] at hin
     simp only[tt,seval]
     rw[dW i aa]
     exact⟨[(9000,.str (PB L s))],none,ak rfl (aq _),av _,⟨i+1,rfl,aa,hin,rfl,rfl⟩,aE⟩
   ·have d1:decide ((op:Int)=1)=false:=aG aa
    by_cases o2:op=2
    ·have d2:decide ((op:Int)=2)=true:=aF aa
     simp only[tt,seval,d1,d2]
     have hk:jM L s op=jL L s 0 (1:Nat) (iC op):=by
      unfold jM
      first|rw[if_pos aa]|rw[if_neg aa]
      rfl
     rw[hk] at hin
     refine cZ (eR op) ?_ ?_<;>simp only[tt,seval]
     refine cS (pJ L hL hT s 0 1 (iC op) aa ha) ?_ ?_<;>simp only[tt,seval,PB,h10]
     cases c:jL L s 0 (1:Nat) (iC op) with
     |true=>
      rw[if_pos c] at hin
      have hlt2:=(lz c).2
      rw[<-hin]
      have h0:decide (op≠0)=true:=aF aa
      simp only[tt,seval]
      rw[aI (n:=(s.a:Int)+1) aa aa]
      refine⟨vi op,[PB L (adv s)],⟨rfl,by rw[h0];rfl⟩,au ?_⟩
      simp only[tt,seval,PB,adv]
      omega
     |false=>
      rw[if_neg (by rw[c];simp)] at hin
      simp only[tt,seval]
      rw[dW i aa]
      exact⟨[(9000,.str (PB L s))],none,ak rfl (aq _),av _,⟨i+1,rfl,aa,hin,rfl,rfl⟩,aE⟩
    ·have d2:decide ((op:Int)=2)=false:=aG aa
     simp only[tt,seval,d1,d2]
     have hk:jM L s op=jL L s 0 (5:Nat) (iC op):=by
      unfold jM
      first|rw[if_pos aa]|rw[if_neg aa]
      rfl
     rw[hk] at hin
     refine cZ (eR op) ?_ ?_<;>simp only[tt,seval]
     refine cS (pJ L hL hT s 0 5 (iC op) aa ha) ?_ ?_<;>simp only[tt,seval,PB,h10]
     cases c:jL L s 0 (5:Nat) (iC op) with
     |true=>
      rw[if_pos c] at hin
      have hlt2:=(lz c).2
      rw[<-hin]
      have h0:decide (op≠0)=true:=aF aa
      simp only[tt,seval]
      rw[aI (n:=(s.a:Int)+1) aa aa]
      refine⟨vi op,[PB L (adv s)],⟨rfl,by rw[h0];rfl⟩,au ?_⟩
      simp only[tt,seval,PB,adv]
      omega
     |false=>
      rw[if_neg (by rw[c];simp)] at hin
      simp only[tt,seval]
      rw[dW i aa]
      exact⟨[(9000,.str (PB L s))],none,ak rfl (aq _),av _,⟨i+1,rfl,aa,hin,rfl,rfl⟩,aE⟩
  ·have:i=ops.length:=by omega
   subst this
   rw[List.drop_length] at hin
   have h0:gR L s ops=0:=hin.symm
   rw[h0]
   simp only[tt,seval]
   exact⟨_,[PB L s],⟨rfl,rfl⟩,au (by simp only[tt,seval,PB])⟩
end Go.Proofs.YtoegnikpokgbfaaGreatDoor
set_option maxRecDepth 8000
namespace Go.Proofs.YtoegnikpokgbfaaGreatDoor
open Go Go.Dv Go.Cv
open Go.Vc (D cF cG cv aX)
theorem AF (op:Nat) (a b:Expr) (Ak As Bk Bs:List (List Nat)):ClT Tryz.prog 189 [vi op,.ag (ap a.row [Ak,As]),.ag (ap b.row [Bk,Bs])] [] (Ak++(As++(Bk++Bs))).flatten fun r os=>os=[]/\∃Hk Hs,r = .ag (ap (il op a b).row [Hk,Hs]):=by
 obtain⟨k1,p1,n1,v1,q1,m1,ks1,ss1⟩:=a
 obtain⟨k2,p2,n2,v2,q2,m2,ks2,ss2⟩:=b
 simp only[ai,ap]
 refine pF ah (some (Ak++(As++(Bk++Bs)))) _ (fun ps h=>by injection h with h;subst h;first|rfl|simp) Tryz.func189 rfl ac ?_
 simp only[Tryz.f189,tt,seval]
 refine fun G=>⟨_,[],⟨rfl,G::(Ak++(As++(Bk++Bs))),[],rfl⟩,au ?_⟩
 simp only[tt,seval,mC,il,zVal,z0,ai,ap]
 first|done|exact lW
def gJ (L:List Tok) (fn:FuncId) (m:PM Expr):Prop:=∀s e s',m s=some (e,s')->s.a<=L.length->Cl Tryz.prog fn [.c (.p 9000 0)] [PB L s] fun r os=>(∃Fk Fs,r = .ag (ap (e).row [Fk,Fs]))/\os=[PB L s']
set_option maxHeartbeats 2000000 in
theorem fH (L:List Tok) (hL:L.length<=1048576) (hT:∀t∈L,t.text.size<=1048576) {f:PM Expr} (okf:OkM (L:=L) f) (g:FuncId) (hg:gJ L g f) (lv:Nat) (hn:(eU lv).length<=100) (ho:∀op∈eU lv,1<=op/\op<=100) (s:PS) (x:Expr) (s':PS) (h:(match f s with|none=>none|some (e,s1)=>cg L f lv (L.length+1) e s1)=some (x,s')) (ha:s.a<=L.length):Cl Tryz.prog 127 [.c (.p 9000 0),.c (.fn g [9000] []),.c (.sl (eU lv).length ((eU lv).flatMap kg) none)] [PB L s] fun r os=>(∃Fk Fs,r = .ag (ap (x).row [Fk,Fs]))/\os=[PB L s']:=by
 split at h
 ·cases h
 rename_i e s1 he
 have ha1:=(okf _ _ _ he).2.1 ha
 have c1:=hg _ _ _ he ha
 obtain⟨k1,p1,n1,v1,q1,m1,ks1,ss1⟩:=e
 rw[ai] at c1
 refine am ah true Tryz.func127 rfl ac ?_
 simp only[Tryz.f127,tt,seval]
 refine CallQ.intro (c1) ?_ ?_ ?_
 ·decide
 ·simp only[tt,seval,PB]
 rintro r os ⟨⟨Fk,Fs,rfl⟩,rfl⟩ hos
 simp only[tt,seval,PB,ap]
 refine dLoop.gh [] ?_
 refine dLoop0.intro (fun f' Lo p=>∃(e:Expr) (v:PS) (n:Nat) (Ek Es:List (List Nat)),cg L f lv n e v=some (x,s')/\v.a<=L.length/\Lo=[(9000,.str (PB L v)),(7,.str (ap (e).row [Ek,Es])),(6,.str [.v (.int .i64 0),.v (.int .i64 0),.v (.bool false),.v (.int .i64 0),.v (.int .i64 0),.v (.string ByteArray.empty),.v (.string ByteArray.empty),.v (.string ByteArray.empty),.v (.slice none 0 0),.v (.slice none 0 0)])]/\p=some (Ek++Es)) (fun _ Lo _=>L.length-Gy Lo) [(9000,.str (PB L s1)),(7,.str (ap ((Expr.mk k1 p1 n1 v1 q1 m1 ks1 ss1)).row [Fk,Fs])),(6,.str [.v (.int .i64 0),.v (.int .i64 0),.v (.bool false),.v (.int .i64 0),.v (.int .i64 0),.v (.string ByteArray.empty),.v (.string ByteArray.empty),.v (.string ByteArray.empty),.v (.slice none 0 0),.v (.slice none 0 0)])] (some (Fk++Fs)) ⟨by rw[ai];exact ak rfl (ak rfl (ak rfl (aq _))),PoSub.refl _,?_⟩ ?_
 ·simp only[tt,seval]
  exact⟨(Expr.mk k1 p1 n1 v1 q1 m1 ks1 ss1),s1,L.length+1,Fk,Fs,h,ha1,rfl,rfl⟩
 ·rintro g' Lo p ⟨e,v,n,Ek,Es,hm,hv,rfl,rfl⟩
  obtain⟨k1,p1,n1,v1,q1,m1,ks1,ss1⟩:=e
  rw[ai]
  simp only[tt,seval,ap]
  refine cS (r9 L hL hT v (eU lv) hn ho hv) ?_ ?_<;>simp only[tt,seval,PB]
  cases n with
  |zero=>cases hm
  |succ n=>
  rw[cg] at hm
  have hop0:gR L v (eU lv)=d5 L v lv:=rfl
  rw[hop0]
  by_cases hop:d5 L v lv=0
  ·rw[if_pos hop] at hm
   injection hm with hm;injection hm with h1 h2;subst h1 h2
   have e0:decide (((d5 L v lv:Nat):Int)=0)=true:=aF aa
   have e1:decide (¬d5 L v lv=0)=false:=aG aa
   simp only[tt,seval,hop,mN]
   refine⟨.ag (ap ((Expr.mk k1 p1 n1 v1 q1 m1 ks1 ss1)).row [Ek,Es]),[PB L (v)],⟨⟨Ek,Es,by first|rfl|simp only[rW,ap,Val.row,lc]⟩,rfl⟩,au ?_⟩
   simp only[tt,seval,PB,ai,ap]
   first|done|exact lW
  ·rw[if_neg hop] at hm
   split at hm
   ·cases hm
   rename_i z u hz
   have hav:=cV (L:=L) (gU hop)
   have o3:=okf _ _ _ hz
   have o3a:v.a+1<=u.a:=o3.1
   have hu:=o3.2.1 hav
   have hlt:=(gU hop).2
   obtain⟨k2,p2,n2,v2,q2,m2,ks2,ss2⟩:=z
   have c2:=hg _ _ _ hz hav
   rw[ai] at c2
   have cb:=fun Gk Gs=>AF (d5 L v lv) (Expr.mk k1 p1 n1 v1 q1 m1 ks1 ss1) (Expr.mk k2 p2 n2 v2 q2 m2 ks2 ss2) Ek Es Gk Gs
   simp only[ai,ap] at cb
   have e0:decide (((d5 L v lv:Nat):Int)=0)=false:=aG aa
   have e0':(((d5 L v lv:Nat):Int)=0)=False:=eq_false aa
   have e1:decide (¬d5 L v lv=0)=true:=aF aa
   simp only[tt,seval,e0',e1,mM]
   refine dDrawn.intro [20] (.take 0 (.take 2 (.br 1 (.br 3 (.br 4 (.br 5 .done .nobr) .nobr) .nobr) (.br 3 (.take 1 (.br 4 (.br 5 .done .nobr) .nobr)) .nobr)))) ac ?_
   simp only[tt,seval]
   all_goals repeat' first|refine xt ?_ ?_|refine mq ?_ ?_
   all_goals
    refine CallQ.intro (c2) ?_ ?_ ?_
    ·decide
    ·simp only[tt,seval,PB]
     decide
    rintro r os ⟨⟨Gk,Gs,rfl⟩,rfl⟩ hos
    simp only[tt,seval,PB,ap]
   all_goals repeat' first|refine xt ?_ ?_|refine mq ?_ ?_
   all_goals
    refine AB ([]) (cb Gk Gs) ?_ ?_ ?_ ?_
    ·decide
    ·simp only[tt,seval]
    ·exact fun x=>by simp only[List.flatten_append,List.flatten_nil,List.count_append,List.append_nil];omega
    rintro r os ⟨rfl,Hk,Hs,rfl⟩ hos
    simp only[tt,seval,il,ai,ap]
   all_goals
    refine⟨[(9000,.str (PB L u)),(7,.str (ap ((il (d5 L v lv) (Expr.mk k1 p1 n1 v1 q1 m1 ks1 ss1) (Expr.mk k2 p2 n2 v2 q2 m2 ks2 ss2))).row [Hk,Hs])),(6,.str [.v (.int .i64 0),.v (.int .i64 0),.v (.bool false),.v (.int .i64 0),.v (.int .i64 0),.v (.string ByteArray.empty),.v (.string ByteArray.empty),.v (.string ByteArray.empty),.v (.slice none 0 0),.v (.slice none 0 0)])],some (Hk++Hs),by simp only[mC,PB,il,zVal,z0,ai,List.flatMap_nil,List.flatMap_cons,List.append_nil,List.length_nil,List.length_cons,ap,lc];exact ak rfl (ak rfl (ak rfl (aq _))),PoSub.refl _,⟨_,u,n,Hk,Hs,hm,hu,rfl,rfl⟩,?_⟩
    show L.length-((u.a:Int)).toNat<L.length-((v.a:Int)).toNat
    omega
theorem HC:eU 1=[1]:=rfl
theorem HD:eU 2=[2]:=rfl
theorem HE:eU 4=[3,4,5,6,7,8]:=rfl
theorem HF:eU 5=[9]:=rfl
theorem HG:eU 6=[10,11]:=rfl
theorem HH:eU 7=[12,13,14]:=rfl
set_option maxHeartbeats 1000000 in
theorem AG (L:List Tok) (hL:L.length<=1048576) (hT:∀t∈L,t.text.size<=1048576) {f:Nat->PM Expr} {q:PM Query} (ok:OkM (L:=L) (f 2)) (hg:gJ L 128 (f 2)):gJ L 57 (stepE L f q 1):=by
 intro s x s' h ha
 have h:(match f 2 s with|none=>none|some (e,s1)=>cg L (f 2) 1 (L.length+1) e s1)=some (x,s'):=h
 have c1:=fH L hL hT ok 128 hg 1 ae ae s x s' h ha
 obtain⟨k1,p1,n1,v1,q1,m1,ks1,ss1⟩:=x
 rw[ai] at c1
 simp only[HC] at c1
 refine am ah true Tryz.func57 rfl ac ?_
 simp only[Tryz.f57,tt,seval]
 refine eK [6] ?_
 simp only[tt,seval,PB]
 refine fun G=>?_
 refine Call1.intro (c1) ?_ ?_ ?_
 ·decide
 ·simp only[tt,seval,PB,kg]
 rintro r os ⟨⟨Fk,Fs,rfl⟩,rfl⟩ hos
 simp only[tt,seval,PB,kg,ap]
 refine⟨.ag (ap ((Expr.mk k1 p1 n1 v1 q1 m1 ks1 ss1)).row [Fk,Fs]),[PB L (s')],⟨⟨Fk,Fs,by first|rfl|simp only[rW,ap,Val.row,lc]⟩,rfl⟩,au ?_⟩
 simp only[tt,seval,PB,ai,ap]
 first|done|exact lW
set_option maxHeartbeats 1000000 in
theorem yz (L:List Tok) (hL:L.length<=1048576) (hT:∀t∈L,t.text.size<=1048576) {f:Nat->PM Expr} {q:PM Query} (ok:OkM (L:=L) (f 3)) (hg:gJ L 190 (f 3)):gJ L 128 (stepE L f q 2):=by
 intro s x s' h ha
 have h:(match f 3 s with|none=>none|some (e,s1)=>cg L (f 3) 2 (L.length+1) e s1)=some (x,s'):=h
 have c1:=fH L hL hT ok 190 hg 2 ae ae s x s' h ha
 obtain⟨k1,p1,n1,v1,q1,m1,ks1,ss1⟩:=x
 rw[ai] at c1
 simp only[HD] at c1
 refine am ah true Tryz.func128 rfl ac ?_
 simp only[Tryz.f128,tt,seval]
 refine eK [6] ?_
 simp only[tt,seval,PB]
 refine fun G=>?_
 refine Call1.intro (c1) ?_ ?_ ?_
 ·decide
 ·simp only[tt,seval,PB,kg]
 rintro r os ⟨⟨Fk,Fs,rfl⟩,rfl⟩ hos
 simp only[tt,seval,PB,kg,ap]
 refine⟨.ag (ap ((Expr.mk k1 p1 n1 v1 q1 m1 ks1 ss1)).row [Fk,Fs]),[PB L (s')],⟨⟨Fk,Fs,by first|rfl|simp only[rW,ap,Val.row,lc]⟩,rfl⟩,au ?_⟩
 simp only[tt,seval,PB,ai,ap]
 first|done|exact lW
set_option maxHeartbeats 1000000 in
theorem yA (L:List Tok) (hL:L.length<=1048576) (hT:∀t∈L,t.text.size<=1048576) {f:Nat->PM Expr} {q:PM Query} (ok:OkM (L:=L) (f 6)) (hg:gJ L 254 (f 6)):gJ L 240 (stepE L f q 5):=by
 intro s x s' h ha
 have h:(match f 6 s with|none=>none|some (e,s1)=>cg L (f 6) 5 (L.length+1) e s1)=some (x,s'):=h
 have c1:=fH L hL hT ok 254 hg 5 ae ae s x s' h ha
 obtain⟨k1,p1,n1,v1,q1,m1,ks1,ss1⟩:=x
 rw[ai] at c1
 simp only[HF] at c1
 refine am ah true Tryz.func240 rfl ac ?_
 simp only[Tryz.f240,tt,seval]
 refine eK [6] ?_
 simp only[tt,seval,PB]
 refine fun G=>?_
 refine Call1.intro (c1) ?_ ?_ ?_
 ·decide
 ·simp only[tt,seval,PB,kg]
 rintro r os ⟨⟨Fk,Fs,rfl⟩,rfl⟩ hos
 simp only[tt,seval,PB,kg,ap]
 refine⟨.ag (ap ((Expr.mk k1 p1 n1 v1 q1 m1 ks1 ss1)).row [Fk,Fs]),[PB L (s')],⟨⟨Fk,Fs,by first|rfl|simp only[rW,ap,Val.row,lc]⟩,rfl⟩,au ?_⟩
 simp only[tt,seval,PB,ai,ap]
 first|done|exact lW
set_option maxHeartbeats 1000000 in
theorem yB (L:List Tok) (hL:L.length<=1048576) (hT:∀t∈L,t.text.size<=1048576) {f:Nat->PM Expr} {q:PM Query} (ok:OkM (L:=L) (f 7)) (hg:gJ L 272 (f 7)):gJ L 254 (stepE L f q 6):=by
 intro s x s' h ha
 have h:(match f 7 s with|none=>none|some (e,s1)=>cg L (f 7) 6 (L.length+1) e s1)=some (x,s'):=h
 have c1:=fH L hL hT ok 272 hg 6 ae ae s x s' h ha
 obtain⟨k1,p1,n1,v1,q1,m1,ks1,ss1⟩:=x
 rw[ai] at c1
 simp only[HG] at c1
 refine am ah true Tryz.func254 rfl ac ?_
 simp only[Tryz.f254,tt,seval]
 refine eK [6] ?_
 simp only[tt,seval,PB]
 refine fun G=>?_
 refine Call1.intro (c1) ?_ ?_ ?_
 ·decide
 ·simp only[tt,seval,PB,kg]
 rintro r os ⟨⟨Fk,Fs,rfl⟩,rfl⟩ hos
 simp only[tt,seval,PB,kg,ap]
 refine⟨.ag (ap ((Expr.mk k1 p1 n1 v1 q1 m1 ks1 ss1)).row [Fk,Fs]),[PB L (s')],⟨⟨Fk,Fs,by first|rfl|simp only[rW,ap,Val.row,lc]⟩,rfl⟩,au ?_⟩
 simp only[tt,seval,PB,ai,ap]
 first|done|exact lW
set_option maxHeartbeats 1000000 in
theorem vO (L:List Tok) (hL:L.length<=1048576) (hT:∀t∈L,t.text.size<=1048576) {f:Nat->PM Expr} {q:PM Query} (ok:OkM (L:=L) (f 8)) (hg:gJ L 288 (f 8)):gJ L 272 (stepE L f q 7):=by
 intro s x s' h ha
 have h:(match f 8 s with|none=>none|some (e,s1)=>cg L (f 8) 7 (L.length+1) e s1)=some (x,s'):=h
 have c1:=fH L hL hT ok 288 hg 7 ae ae s x s' h ha
 obtain⟨k1,p1,n1,v1,q1,m1,ks1,ss1⟩:=x
 rw[ai] at c1
 simp only[HH] at c1
 refine am ah true Tryz.func272 rfl ac ?_
 simp only[Tryz.f272,tt,seval]
 refine eK [6] ?_
 simp only[tt,seval,PB]
 refine fun G=>?_
 refine Call1.intro (c1) ?_ ?_ ?_
 ·decide
 ·simp only[tt,seval,PB,kg]
 rintro r os ⟨⟨Fk,Fs,rfl⟩,rfl⟩ hos
 simp only[tt,seval,PB,kg,ap]
 refine⟨.ag (ap ((Expr.mk k1 p1 n1 v1 q1 m1 ks1 ss1)).row [Fk,Fs]),[PB L (s')],⟨⟨Fk,Fs,by first|rfl|simp only[rW,ap,Val.row,lc]⟩,rfl⟩,au ?_⟩
 simp only[tt,seval,PB,ai,ap]
 first|done|exact lW
set_option maxHeartbeats 1000000 in
theorem yC (L:List Tok) (hL:L.length<=1048576) (hT:∀t∈L,t.text.size<=1048576) {f:Nat->PM Expr} {q:PM Query} (hs:gJ L 190 (f 3)) (hg:gJ L 224 (f 4)):gJ L 190 (stepE L f q 3):=by
 intro s x s' h ha
 have h:(if az L s 15=true then (match f 3 (adv s) with|none=>none|some (e,s1)=>some (nB 15 e,s1)) else f 4 s)=some (x,s'):=h
 refine am ah true Tryz.func190 rfl ac ?_
 simp only[Tryz.f190,tt,seval]
 refine cS (bt L hL hT s 15 ⟨#[78,79,84]⟩ ac ha) ?_ ?_<;>simp only[tt,seval,PB]
 cases c:az L s 15 with
 |true=>
  rw[if_pos c] at h
  split at h
  ·cases h
  rename_i e s1 he
  injection h with h;injection h with h1 h2;subst h1 h2
  obtain⟨k1,p1,n1,v1,q1,m1,ks1,ss1⟩:=e
  have c1:=hs _ _ _ he (cV (aB c))
  rw[ai] at c1
  simp only[tt,seval,mM]
  refine CallQ.intro (c1) ?_ ?_ ?_
  ·decide
  ·simp only[tt,seval,PB]
  rintro r os ⟨⟨Fk,Fs,rfl⟩,rfl⟩ hos
  simp only[tt,seval,PB,ap]
  refine fun G=>?_
  refine⟨.ag (ap (nB 15 (Expr.mk k1 p1 n1 v1 q1 m1 ks1 ss1)).row [G::(Fk++Fs),[]]),[PB L s1],⟨⟨_,_,rfl⟩,rfl⟩,au ?_⟩
  simp only[tt,seval,mC,PB,nB,zVal,z0,ai,ap]
  first|done|exact lW
 |false=>
  rw[if_neg (by rw[c];simp)] at h
  obtain⟨k1,p1,n1,v1,q1,m1,ks1,ss1⟩:=x
  have c1:=hg _ _ _ h ha
  rw[ai] at c1
  simp only[tt,seval,mN]
  refine CallQ.intro (c1) ?_ ?_ ?_
  ·decide
  ·simp only[tt,seval,PB]
  rintro r os ⟨⟨Fk,Fs,rfl⟩,rfl⟩ hos
  simp only[tt,seval,PB,ap]
  refine⟨.ag (ap ((Expr.mk k1 p1 n1 v1 q1 m1 ks1 ss1)).row [Fk,Fs]),[PB L (s')],⟨⟨Fk,Fs,by first|rfl|simp only[rW,ap,Val.row,lc]⟩,rfl⟩,au ?_⟩
  simp only[tt,seval,PB,ai,ap]
  first|done|exact lW
set_option maxHeartbeats 1000000 in
theorem yD (L:List Tok) (hL:L.length<=1048576) (hT:∀t∈L,t.text.size<=1048576) {f:Nat->PM Expr} {q:PM Query} (hs:gJ L 288 (f 8)) (hg:gJ L 299 (f 9)):gJ L 288 (stepE L f q 8):=by
 intro s x s' h ha
 have h:(if cu L s 45=true then (match f 8 (adv s) with|none=>none|some (e,s1)=>some (nB 16 e,s1)) else f 9 s)=some (x,s'):=h
 refine am ah true Tryz.func288 rfl ac ?_
 simp only[Tryz.f288,tt,seval]
 refine cS (cR L hL hT s 45 ha) ?_ ?_<;>simp only[tt,seval,PB]
 cases c:cu L s 45 with
 |true=>
  rw[if_pos c] at h
  split at h
  ·cases h
  rename_i e s1 he
  injection h with h;injection h with h1 h2;subst h1 h2
  obtain⟨k1,p1,n1,v1,q1,m1,ks1,ss1⟩:=e
  have c1:=hs _ _ _ he (cV (bh c))
  rw[ai] at c1
  simp only[tt,seval,mM]
  refine CallQ.intro (c1) ?_ ?_ ?_
  ·decide
  ·simp only[tt,seval,PB]
  rintro r os ⟨⟨Fk,Fs,rfl⟩,rfl⟩ hos
  simp only[tt,seval,PB,ap]
  refine fun G=>?_
  refine⟨.ag (ap (nB 16 (Expr.mk k1 p1 n1 v1 q1 m1 ks1 ss1)).row [G::(Fk++Fs),[]]),[PB L s1],⟨⟨_,_,rfl⟩,rfl⟩,au ?_⟩
  simp only[tt,seval,mC,PB,nB,zVal,z0,ai,ap]
  first|done|exact lW
 |false=>
  rw[if_neg (by rw[c];simp)] at h
  obtain⟨k1,p1,n1,v1,q1,m1,ks1,ss1⟩:=x
  have c1:=hg _ _ _ h ha
  rw[ai] at c1
  simp only[tt,seval,mN]
  refine CallQ.intro (c1) ?_ ?_ ?_
  ·decide
  ·simp only[tt,seval,PB]
  rintro r os ⟨⟨Fk,Fs,rfl⟩,rfl⟩ hos
  simp only[tt,seval,PB,ap]
  refine⟨.ag (ap ((Expr.mk k1 p1 n1 v1 q1 m1 ks1 ss1)).row [Fk,Fs]),[PB L (s')],⟨⟨Fk,Fs,by first|rfl|simp only[rW,ap,Val.row,lc]⟩,rfl⟩,au ?_⟩
  simp only[tt,seval,PB,ai,ap]
  first|done|exact lW
def GH (L:List Tok) (fn:FuncId) (m:PM Query):Prop:=∀s e s',m s=some (e,s')->s.a<=L.length->Cl Tryz.prog fn [.c (.p 9000 0)] [PB L s] fun r os=>(∃Fi Ff Fw Fo,r = .ag (ap (e).row [Fi,Ff,Fw,Fo]))/\os=[PB L s']
theorem pK (v:Val):Cl Tryz.prog 304 [.ag (ar v.row)] [] fun r _=>r = .ag (ap (eE v).row [[],[]]):=by
 refine am ah false Tryz.func304 rfl ac ?_
 simp only[Tryz.f304,tt,seval]
 simp only[tt,seval,Val.row]
 refine⟨.ag (ap (eE v).row [[],[]]),[],rfl,au ?_⟩
 simp only[tt,seval,mC,eE,z0,ai,ap]
set_option maxHeartbeats 2000000 in
theorem yE (L:List Tok) (hL:L.length<=1048576) (hT:∀t∈L,t.text.size<=1048576) {f:Nat->PM Expr} (ok:OkM (L:=L) (f 1)) (hg:gJ L 57 (f 1)) (s:PS) (x:List Expr) (s':PS) (h:lX L f s=some (x,s')) (ha:s.a<=L.length):Cl Tryz.prog 257 [.c (.p 9000 0)] [PB L s] fun r os=>(x.length<=1048580/\∃F,r = .c (.ow 29 x.length (x.flatMap Expr.row) (some F)))/\os=[PB L s']:=by
 unfold lX at h
 split at h
 ·cases h
 rename_i e s1 he
 have ha1:=(ok _ _ _ he).2.1 ha
 have c1:=hg _ _ _ he ha
 obtain⟨k1,p1,n1,v1,q1,m1,ks1,ss1⟩:=e
 rw[ai] at c1
 refine am ah true Tryz.func257 rfl ac ?_
 simp only[Tryz.f257,tt,seval]
 refine CallQ.intro (c1) ?_ ?_ ?_
 ·decide
 ·simp only[tt,seval,PB]
 rintro r os ⟨⟨Fk,Fs,rfl⟩,rfl⟩ hos
 simp only[tt,seval,PB,ap]
 refine dLoop.gh [.ren 6 13] ⟨ae,ae,?_⟩
 refine dLoop0.intro (fun f' Lo p=>∃(l:List Expr) (v:PS) (n:Nat) (Fl Pl:List (List Nat)),f' 3 = .c (.s 13 l.length)/\gy L (f 1) n l v=some (x,s')/\v.a<=L.length/\l.length<=v.a+1/\Sb Fl.flatten Pl.flatten/\Lo=[(9000,.str (PB L v)),(13,.arr 29 (l).length ((l).flatMap Expr.row) (some (Fl)))]/\p=some Pl) (fun _ Lo _=>L.length-Gy Lo) [(9000,.str (PB L s1)),(13,.arr 29 ([(Expr.mk k1 p1 n1 v1 q1 m1 ks1 ss1)]).length (([(Expr.mk k1 p1 n1 v1 q1 m1 ks1 ss1)]).flatMap Expr.row) (some (Fk++Fs)))] (some (Fk++Fs)) ⟨by simp only[PB,ai,List.flatMap_nil,List.flatMap_cons,List.append_nil,List.length_nil,List.length_cons];exact ak rfl (ak rfl (aq _)),PoSub.refl _,?_⟩ ?_
 ·simp only[tt,seval]
  exact⟨[(Expr.mk k1 p1 n1 v1 q1 m1 ks1 ss1)],s1,L.length+1,Fk++Fs,Fk++Fs,rfl,h,ha1,by simp,Sb.refl _,rfl,rfl⟩
 ·rintro g' Lo p ⟨l,v,n,Fl,Pl,h3,hm,hv,hml,hsb,rfl,rfl⟩
  simp only[tt,seval] at h3
  simp only[tt,seval]
  refine cS (cR L hL hT v 44 hv) ?_ ?_<;>simp only[tt,seval,PB,h3]
  cases n with
  |zero=>cases hm
  |succ n=>
  rw[gy] at hm
  cases c44:cu L v 44 with
  |true=>
   rw[if_pos c44] at hm
   split at hm
   ·cases hm
   rename_i z u hz
   have hav:=cV (L:=L) (bh c44)
   have o3:=ok _ _ _ hz
   have o3a:v.a+1<=u.a:=o3.1
   have hu:=o3.2.1 hav
   have hlt:=(bh c44).2
   obtain⟨k2,p2,n2,v2,q2,m2,ks2,ss2⟩:=z
   have c2:=hg _ _ _ hz hav
   rw[ai] at c2
   simp only[tt,seval,mM]
   refine CallQ.intro (c2) ?_ ?_ ?_
   ·decide
   ·simp only[tt,seval,PB]
   rintro r os ⟨⟨Gk,Gs,rfl⟩,rfl⟩ hos
   simp only[tt,seval,PB,ap]
   refine sJ ?_
   refine⟨[(9000,.str (PB L u)),(13,.arr 29 ((l++[(Expr.mk k2 p2 n2 v2 q2 m2 ks2 ss2)])).length (((l++[(Expr.mk k2 p2 n2 v2 q2 m2 ks2 ss2)])).flatMap Expr.row) (some (Fl++(Gk++Gs))))],some (Pl++(Gk++Gs)),by simp only[PB,ai,List.flatMap_nil,List.flatMap_cons,List.append_nil,List.length_nil,List.length_cons,List.flatMap_append,aA];exact ak rfl (ak rfl (aq _)),PoSub.refl _,⟨l++[(Expr.mk k2 p2 n2 v2 q2 m2 ks2 ss2)],u,n,_,_,by simp,hm,hu,by simp;omega,by simp only[List.flatten_append];exact hsb.append (Sb.refl _),rfl,rfl⟩,?_⟩
   show L.length-((u.a:Int)).toNat<L.length-((v.a:Int)).toNat
   omega
  |false=>
   rw[if_neg (by rw[c44];simp)] at hm
   injection hm with hm;injection hm with e1 e2;subst e1 e2
   simp only[tt,seval,mN]
   refine⟨.c (.ow 29 l.length (l.flatMap Expr.row) (some Fl)),[PB L v],⟨⟨aa,Fl,rfl⟩,rfl⟩,au ?_⟩
   simp only[tt,seval,PB]
   exact hsb
set_option maxHeartbeats 4000000 in
theorem AH (L:List Tok) (hL:L.length<=1048576) (hT:∀t∈L,t.text.size<=1048576) {f:Nat->PM Expr} {q:PM Query} (ok:∀lv,OkM (L:=L) (f lv)) (okq:OkM (L:=L) q) (hor:gJ L 57 (f 1)) (hq:GH L 256 q) (e:Expr) (not:Bool) (Ek Es:List (List Nat)) (s:PS) (x:Expr) (s':PS) (h:v7 L f q e not s=some (x,s')) (ha:s.a<=L.length):ClT Tryz.prog 242 [.c (.p 9000 0),.ag (ap e.row [Ek,Es]),vb not] [PB L s] (Ek++Es).flatten fun r os=>(∃Hk Hs,r = .ag (ap x.row [Hk,Hs]))/\os=[PB L s']:=by
 obtain⟨k1,p1,n1,v1,q1,m1,ks1,ss1⟩:=e
 unfold v7 at h
 simp only at h
 simp only[ai,ap]
 refine pF ah (some (Ek++Es)) _ (fun ps h=>by injection h with h;subst h;first|rfl|simp) Tryz.func242 rfl ac ?_
 simp only[Tryz.f242,tt,seval]
 refine cS (eD L hL hT s 40 ha) ?_ ?_<;>simp only[tt,seval,PB]
 have o1:Ok L s (must (cu L s 40) s):=Ok.must fun h=>bh h
 have ha1:=o1.2.1 ha
 generalize must (cu L s 40) s=u at *
 refine cS (u5 L hL hT u 1 ⟨#[83,69,76,69,67,84]⟩ ac ha1) ?_ ?_<;>simp only[tt,seval,PB]
 cases c1:az L u 1 with
 |true=>
  rw[if_pos c1] at h
  split at h
  ·cases h
  rename_i y t hy
  injection h with h;injection h with h1 h2;subst h1 h2
  have ht:=(okq _ _ _ hy).2.1 ha1
  obtain⟨d,its,frs,whs,ods,lim⟩:=y
  have cq:=hq _ _ _ hy ha1
  rw[bj] at cq
  simp only[tt,seval]
  refine CallQ.intro (cq) ?_ ?_ ?_
  ·decide
  ·simp only[tt,seval,PB]
  rintro r os ⟨⟨Fi,Ff,Fw,Fo,rfl⟩,rfl⟩ hos
  simp only[tt,seval,PB,ap]
  refine cS (eD L hL hT t 41 ht) ?_ ?_<;>simp only[tt,seval,PB]
  refine fun G0=>?_
  refine fun G1=>?_
  refine⟨.ag (ap (cH 8 not [(Expr.mk k1 p1 n1 v1 q1 m1 ks1 ss1)] [(Query.mk d its frs whs ods lim)]).row [G0::(Ek++Es),G1::(Fi++(Ff++(Fw++Fo)))]),[PB L (must (cu L t 41) t)],⟨⟨_,_,rfl⟩,rfl⟩,au ?_⟩
  simp only[tt,seval,mC,PB,cH,zVal,z0,ai,bj,ap]
  first|done|exact Iz
 |false=>
  rw[if_neg (by rw[c1];simp)] at h
  split at h
  ·cases h
  rename_i l t hl
  injection h with h;injection h with h1 h2;subst h1 h2
  have ht:=(OkM.ors ok _ _ _ hl).2.1 ha1
  have cl:=yE L hL hT (ok 1) hor _ _ _ hl ha1
  simp only[tt,seval]
  refine dDrawn.intro [24] (.take 0 (.take 2 (.br 1 (.br 3 (.br 4 (.take 5 (.br 6 .done .nobr)) .nobr) .nobr) (.br 3 (.take 1 (.br 4 (.take 5 (.br 6 .done .nobr)) .nobr)) .nobr)))) ac ?_
  simp only[tt,seval]
  all_goals repeat' first|refine xt ?_ ?_|refine mq ?_ ?_
  all_goals
   refine CallQ.intro (cl) ?_ ?_ ?_
   ·decide
   ·simp only[tt,seval,PB]
    decide
   rintro r os ⟨⟨hlen,Fl,rfl⟩,rfl⟩ hos
   simp only[tt,seval,PB]
  all_goals repeat' first|refine GG ?_ ?_|refine AC ?_ ?_|refine AD ?_ ?_
  all_goals
   refine⟨ac,aQ aK l,⟨by simp only[maxLen];omega,aa⟩,?_⟩
  all_goals
   refine cS (eD L hL hT t 41 ht) ?_ ?_<;>simp only[tt,seval,PB]
   refine fun G0=>?_
   refine⟨.ag (ap (cH 7 not ((Expr.mk k1 p1 n1 v1 q1 m1 ks1 ss1)::l) []).row [G0::(Ek++Es++Fl),[]]),[PB L (must (cu L t 41) t)],⟨⟨_,_,rfl⟩,rfl⟩,au ?_⟩
   simp only[tt,seval,mC,PB,cH,zVal,z0,ai,ap]
   first|done|exact lW
theorem u6 (k:Int):Cl Tryz.prog 305 [vi k] [] fun r _=>r = .ag (ar (Val.mk 1 k z0).row):=by
 refine am ah false Tryz.func305 rfl ac ?_
 simp only[Tryz.f305,tt,seval]
 refine⟨.ag (ar (Val.mk 1 k z0).row),[],rfl,au ?_⟩
 simp only[tt,seval,Val.row,z0,mC]
theorem rR (s:ByteArray):Cl Tryz.prog 306 [vs s] [] fun r _=>r = .ag (ar (Val.mk 2 0 s).row):=by
 refine am ah false Tryz.func306 rfl ac ?_
 simp only[Tryz.f306,tt,seval]
 refine⟨.ag (ar (Val.mk 2 0 s).row),[],rfl,au ?_⟩
 simp only[tt,seval,Val.row]
theorem rS:Cl Tryz.prog 307 [vb true] [] fun r _=>r = .ag (ar (Val.mk 3 1 z0).row):=by
 refine am ah false Tryz.func307 rfl ac ?_
 simp only[Tryz.f307,tt,seval]
 refine⟨.ag (ar (Val.mk 3 1 z0).row),[],rfl,au ?_⟩
 simp only[tt,seval,Val.row,z0,mC]
theorem rT:Cl Tryz.prog 307 [vb false] [] fun r _=>r = .ag (ar (Val.mk 3 0 z0).row):=by
 refine am ah false Tryz.func307 rfl ac ?_
 simp only[Tryz.f307,tt,seval]
 refine⟨.ag (ar (Val.mk 3 0 z0).row),[],rfl,au ?_⟩
 simp only[tt,seval,Val.row,z0,mC]
set_option maxHeartbeats 4000000 in
theorem vP (L:List Tok) (hL:L.length<=1048576) (hT:∀t∈L,t.text.size<=1048576) {f:Nat->PM Expr} {q:PM Query} (ok1:OkM (L:=L) (f 1)) (okq:OkM (L:=L) q) (hf:gJ L 57 (f 1)) (hq:GH L 256 q):gJ L 299 (dA L f q):=by
 intro s e s' h ha
 have hts:=p8 hL hT s
 unfold dA at h
 simp only at h
 refine am ah true Tryz.func299 rfl ac ?_
 simp only[Tryz.f299,tt,seval]
 refine cS (iW L hL hT s 3 ha) ?_ ?_<;>simp only[tt,seval,PB]
 cases c3:kH L s 3 with
 |true=>
  rw[if_pos c3] at h
  injection h with h;injection h with h1 h2;subst h1 h2
  simp only[tt,seval]
  refine cS (iq L hL hT s ha) ?_ ?_<;>simp only[tt,seval,PB]
  have hn:mNum L s=(j8 (bM L s),adv s):=by unfold mNum;rw[pe c3]
  rw[hn]
  refine cZ (u6 (j8 (bM L s))) ?_ ?_<;>simp only[tt,seval,Val.row]
  have cl:=pK ⟨1,j8 (bM L s),z0⟩
  refine cZ (cl) ?_ ?_<;>simp only[tt,seval,mC,eE,z0,ai,ap,Val.row]
  refine⟨.ag (ap (eE ⟨1,j8 (bM L s),z0⟩).row [[],[]]),[PB L (adv s)],⟨⟨[],[],rfl⟩,rfl⟩,au ?_⟩
  simp only[tt,seval,PB,eE,z0,ai,ap]
  first|done|exact uZ
 |false=>
 rw[if_neg (by rw[c3];simp)] at h
 simp only[tt,seval]
 refine cS (iW L hL hT s 4 ha) ?_ ?_<;>simp only[tt,seval,PB]
 cases c4:kH L s 4 with
 |true=>
  rw[if_pos c4] at h
  injection h with h;injection h with h1 h2;subst h1 h2
  simp only[tt,seval]
  refine cS (dB L hL hT s 4 ha) ?_ ?_<;>simp only[tt,seval,PB]
  rw[pe c4]
  refine cZ (rR (bM L s)) ?_ ?_<;>simp only[tt,seval,Val.row]
  have cl:=pK ⟨2,0,bM L s⟩
  refine cZ (cl) ?_ ?_<;>simp only[tt,seval,mC,eE,z0,ai,ap,Val.row]
  refine⟨.ag (ap (eE ⟨2,0,bM L s⟩).row [[],[]]),[PB L (adv s)],⟨⟨[],[],rfl⟩,rfl⟩,au ?_⟩
  simp only[tt,seval,PB,eE,z0,ai,ap]
  first|done|exact uZ
 |false=>
 rw[if_neg (by rw[c4];simp)] at h
 simp only[tt,seval]
 refine cS (bt L hL hT s 20 ⟨#[78,85,76,76]⟩ ac ha) ?_ ?_<;>simp only[tt,seval,PB]
 cases c20:az L s 20 with
 |true=>
  rw[if_pos c20] at h
  injection h with h;injection h with h1 h2;subst h1 h2
  simp only[tt,seval,mM]
  have cl:=pK zVal
  refine cZ (cl) ?_ ?_<;>simp only[tt,seval,mC,eE,zVal,z0,ai,ap,Val.row]
  refine⟨.ag (ap (eE zVal).row [[],[]]),[PB L (adv s)],⟨⟨[],[],rfl⟩,rfl⟩,au ?_⟩
  simp only[tt,seval,PB,eE,zVal,z0,ai,ap]
  first|done|exact uZ
 |false=>
 rw[if_neg (by rw[c20];simp)] at h
 simp only[tt,seval,mN]
 refine cS (bt L hL hT s 21 ⟨#[84,82,85,69]⟩ ac ha) ?_ ?_<;>simp only[tt,seval,PB]
 cases c21:az L s 21 with
 |true=>
  rw[if_pos c21] at h
  injection h with h;injection h with h1 h2;subst h1 h2
  simp only[tt,seval,mM]
  refine cZ (rS) ?_ ?_<;>simp only[tt,seval,Val.row]
  have cl:=pK ⟨3,1,z0⟩
  refine cZ (cl) ?_ ?_<;>simp only[tt,seval,mC,eE,z0,ai,ap,Val.row]
  refine⟨.ag (ap (eE ⟨3,1,z0⟩).row [[],[]]),[PB L (adv s)],⟨⟨[],[],rfl⟩,rfl⟩,au ?_⟩
  simp only[tt,seval,PB,eE,z0,ai,ap]
  first|done|exact uZ
 |false=>
 rw[if_neg (by rw[c21];simp)] at h
 simp only[tt,seval,mN]
 refine cS (bt L hL hT s 22 ⟨#[70,65,76,83,69]⟩ ac ha) ?_ ?_<;>simp only[tt,seval,PB]
 cases c22:az L s 22 with
 |true=>
  rw[if_pos c22] at h
  injection h with h;injection h with h1 h2;subst h1 h2
  simp only[tt,seval,mM]
  refine cZ (rT) ?_ ?_<;>simp only[tt,seval,Val.row]
  have cl:=pK ⟨3,0,z0⟩
  refine cZ (cl) ?_ ?_<;>simp only[tt,seval,mC,eE,z0,ai,ap,Val.row]
  refine⟨.ag (ap (eE ⟨3,0,z0⟩).row [[],[]]),[PB L (adv s)],⟨⟨[],[],rfl⟩,rfl⟩,au ?_⟩
  simp only[tt,seval,PB,eE,z0,ai,ap]
  first|done|exact uZ
 |false=>
 rw[if_neg (by rw[c22];simp)] at h
 simp only[tt,seval,mN]
 refine cS (iW L hL hT s 2 ha) ?_ ?_<;>simp only[tt,seval,PB]
 cases c2:kH L s 2 with
 |true=>
  rw[if_pos c2] at h
  simp only[tt,seval]
  refine cS (dB L hL hT s 2 ha) ?_ ?_<;>simp only[tt,seval,PB]
  rw[pe c2]
  simp only[seval]
  have ha1:=cV (L:=L) (jN c2)
  refine cS (cR L hL hT (adv s) 46 ha1) ?_ ?_<;>simp only[tt,seval,PB]
  cases cd:cu L (adv s) 46 with
  |true=>
   rw[if_pos cd] at h
   injection h with h;injection h with h1 h2;subst h1 h2
   simp only[tt,seval,mM]
   refine cS (dB L hL hT (adv (adv s)) 2 (cV (bh cd))) ?_ ?_<;>simp only[tt,seval,PB]
   refine⟨.ag (ap (qp (bM L s) (mText L 2 (adv (adv s))).1).row [[],[]]),[PB L ((mText L 2 (adv (adv s))).2)],⟨⟨[],[],rfl⟩,rfl⟩,au ?_⟩
   simp only[tt,seval,mC,PB,qp,zVal,ai,ap]
   first|done|exact uZ
  |false=>
   rw[if_neg (by rw[cd];simp)] at h
   injection h with h;injection h with h1 h2;subst h1 h2
   simp only[tt,seval,mN]
   refine⟨.ag (ap (qp z0 (bM L s)).row [[],[]]),[PB L (adv s)],⟨⟨[],[],rfl⟩,rfl⟩,au ?_⟩
   simp only[tt,seval,mC,PB,qp,zVal,z0,ai,ap]
   first|done|exact uZ
 |false=>
 rw[if_neg (by rw[c2];simp)] at h
 simp only[tt,seval]
 refine cS (cR L hL hT s 40 ha) ?_ ?_<;>simp only[tt,seval,PB]
 cases cl:cu L s 40 with
 |true=>
  rw[if_pos cl] at h
  have ha1:=cV (L:=L) (bh cl)
  split at h
  ·cases h
  rename_i x t hx
  injection h with h;injection h with h1 h2;subst h1 h2
  have o2:=ok1 _ _ _ hx
  obtain⟨k1,p1,n1,v1,q1,m1,ks1,ss1⟩:=x
  have c:=hf _ _ _ hx ha1
  rw[ai] at c
  simp only[tt,seval,mM]
  refine CallQ.intro (c) ?_ ?_ ?_
  ·decide
  ·simp only[tt,seval,PB]
  rintro r os ⟨⟨Fk,Fs,rfl⟩,rfl⟩ hos
  simp only[tt,seval,PB,ap]
  refine cS (eD L hL hT t 41 (o2.2.1 ha1)) ?_ ?_<;>simp only[tt,seval,PB]
  refine⟨.ag (ap ((Expr.mk k1 p1 n1 v1 q1 m1 ks1 ss1)).row [Fk,Fs]),[PB L (must (cu L t 41) t)],⟨⟨Fk,Fs,by first|rfl|simp only[rW,ap,Val.row,lc]⟩,rfl⟩,au ?_⟩
  simp only[tt,seval,PB,ai,ap]
  first|done|exact lW
 |false=>
 rw[if_neg (by rw[cl];simp)] at h
 simp only[tt,seval,mN]
 refine cS (bt L hL hT s 19 ⟨#[69,88,73,83,84,83]⟩ ac ha) ?_ ?_<;>simp only[tt,seval,PB]
 cases c19:az L s 19 with
 |true=>
  rw[if_pos c19] at h
  simp only[tt,seval,mM]
  have ha1:=cV (L:=L) (aB c19)
  have o1:Ok L (adv s) (must (cu L (adv s) 40) (adv s)):=Ok.must fun h=>bh h
  refine cS (eD L hL hT (adv s) 40 ha1) ?_ ?_<;>simp only[tt,seval,PB]
  split at h
  ·cases h
  rename_i x t hx
  injection h with h;injection h with h1 h2;subst h1 h2
  have o2:=okq _ _ _ hx
  obtain⟨d,its,frs,whs,ods,lim⟩:=x
  have c:=hq _ _ _ hx (o1.2.1 ha1)
  rw[bj] at c
  refine CallQ.intro (c) ?_ ?_ ?_
  ·decide
  ·simp only[tt,seval,PB]
  rintro r os ⟨⟨Fi,Ff,Fw,Fo,rfl⟩,rfl⟩ hos
  simp only[tt,seval,PB,ap]
  refine cS (eD L hL hT t 41 (o2.2.1 (o1.2.1 ha1))) ?_ ?_<;>simp only[tt,seval,PB]
  refine fun G0=>?_
  refine⟨.ag (ap (cH 9 false [] [(Query.mk d its frs whs ods lim)]).row [[],G0::(Fi++(Ff++(Fw++Fo)))]),[PB L (must (cu L t 41) t)],⟨⟨_,_,rfl⟩,rfl⟩,au ?_⟩
  simp only[tt,seval,mC,PB,cH,zVal,z0,ai,bj,ap]
  first|done|exact lW
 |false=>
  rw[if_neg (by rw[c19];simp)] at h
  injection h with h;injection h with h1 h2;subst h1 h2
  simp only[tt,seval,mN,fl]
  refine⟨.ag (ap (zExpr).row [[],[]]),[PB L (fl s)],⟨⟨[],[],rfl⟩,rfl⟩,au ?_⟩
  simp only[tt,seval,fl,mC,PB,zExpr,zVal,z0,ai,ap]
  first|done|exact uZ
end Go.Proofs.YtoegnikpokgbfaaGreatDoor
